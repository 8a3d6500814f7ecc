/- Device trees: how they read, and opened. -/
import Derived.Test.YtnkpaockginooaaNest
import Derived.Test.YtnkpaockginooaaBytes
import Derived.BigQuiet
import Derived.Deep.CutRange
import Derived.Lib.QuietBelow
import Derived.Test.YtnkpaockginooaaRegT
namespace Go.Proofs.Ytnkpaockginooaa
set_option linter.unusedVariables false
open Go.RowKit Go.ChangeShapes Go.WideShapes

/-- A property: its name and its bytes. A node: its name, its properties, its kids. -/
abbrev Pr := ByteArray × List Int
inductive Tr where
  | mk (nm : ByteArray) (ps : List Pr) (ks : List Tr)
instance : Inhabited Tr := ⟨.mk ⟨#[]⟩ [] []⟩
def Tr.nm : Tr → ByteArray | .mk n _ _ => n
def Tr.ps : Tr → List Pr | .mk _ p _ => p
def Tr.ks : Tr → List Tr | .mk _ _ k => k
theorem Tr.eta (t : Tr) : t = .mk t.nm t.ps t.ks := by cases t; rfl
/-- Rows of k cells each. -/
def RowsAt (w : World) (B k : Nat) (A : Option Addr) (n : Nat) (f : Nat → List Value) : Prop :=
  0 < n → ∃ b off, A = some ⟨b, off, none⟩ ∧ b < B ∧ ∀ i, i < n → ∀ j, j < k → w.cell? ⟨b, off + (i * k + j), none⟩ = (f i)[j]?
def PrOk (w : World) (B : Nat) (p : Pr) (cs : List Value) : Prop :=
  p.1.size ≤ maxLen ∧ BytesOk p.2 ∧ ∃ A c, cs = [.string p.1, .slice A p.2.length c] ∧ p.2.length ≤ c ∧ c ≤ maxLen ∧ Rd w B 1 A p.2.length (p.2.flatMap encB)
def TrOk (w : World) (B : Nat) : Nat → Tr → List Value → Prop
  | 0, _, _ => False
  | n + 1, t, cs => t.nm.size ≤ maxLen ∧ ∃ (A1 : Option Addr) (c1 : Nat) (A2 : Option Addr) (c2 : Nat) (f g : Nat → List Value),
      cs = [.string t.nm, .slice A1 t.ps.length c1, .slice A2 t.ks.length c2] ∧ t.ps.length ≤ c1 ∧ c1 ≤ maxLen ∧ t.ks.length ≤ c2 ∧ c2 ≤ maxLen ∧ RowsAt w B 2 A1 t.ps.length f ∧ RowsAt w B 3 A2 t.ks.length g ∧
      (∀ i p, t.ps[i]? = some p → PrOk w B p (f i)) ∧ (∀ i k, t.ks[i]? = some k → TrOk w B n k (g i))
section
variable {w w' : World} {B B' : Nat}
theorem RowsAt.below {k n : Nat} {A : Option Addr} {f : Nat → List Value} (h : RowsAt w B k A n f) (hb : Below B w w') : RowsAt w' B k A n f := fun hn => by
  obtain ⟨b, off, e, hB, hc⟩ := h hn
  exact ⟨b, off, e, hB, fun i hi j hj => (hb.cell (p := ⟨b, off + (i * k + j), none⟩) hB).trans (hc i hi j hj)⟩
theorem RowsAt.more {k n : Nat} {A : Option Addr} {f : Nat → List Value} (h : RowsAt w B k A n f) (hB : B ≤ B') : RowsAt w B' k A n f := fun hn => by
  obtain ⟨b, off, e, hb, hc⟩ := h hn
  exact ⟨b, off, e, by omega, hc⟩
theorem PrOk.below {p : Pr} {cs : List Value} (h : PrOk w B p cs) (hb : Below B w w') : PrOk w' B p cs := by
  obtain ⟨h1, h2, A, c, h3, h4, h5, h6⟩ := h
  exact ⟨h1, h2, A, c, h3, h4, h5, h6.below hb⟩
theorem PrOk.more {p : Pr} {cs : List Value} (h : PrOk w B p cs) (hB : B ≤ B') : PrOk w B' p cs := by
  obtain ⟨h1, h2, A, c, h3, h4, h5, h6⟩ := h
  exact ⟨h1, h2, A, c, h3, h4, h5, h6.more hB⟩
theorem TrOk.below : ∀ {n : Nat} {t : Tr} {cs : List Value}, TrOk w B n t cs → Below B w w' → TrOk w' B n t cs
  | 0, _, _, h, _ => h
  | n + 1, t, cs, ⟨h0, A1, c1, A2, c2, f, g, h1, h2, h3, h4, h5, h6, h7, h8, h9⟩, hb =>
    ⟨h0, A1, c1, A2, c2, f, g, h1, h2, h3, h4, h5, h6.below hb, h7.below hb, fun i p hp => (h8 i p hp).below hb, fun i k hk => TrOk.below (h9 i k hk) hb⟩
theorem TrOk.more : ∀ {n : Nat} {t : Tr} {cs : List Value}, TrOk w B n t cs → B ≤ B' → TrOk w B' n t cs
  | 0, _, _, h, _ => h
  | n + 1, t, cs, ⟨h0, A1, c1, A2, c2, f, g, h1, h2, h3, h4, h5, h6, h7, h8, h9⟩, hb =>
    ⟨h0, A1, c1, A2, c2, f, g, h1, h2, h3, h4, h5, h6.more hb, h7.more hb, fun i p hp => (h8 i p hp).more hb, fun i k hk => TrOk.more (h9 i k hk) hb⟩
theorem TrOk.mono : ∀ {n m : Nat} {t : Tr} {cs : List Value}, TrOk w B n t cs → n ≤ m → TrOk w B m t cs
  | 0, _, _, _, h, _ => h.elim
  | n + 1, 0, _, _, _, hm => absurd hm (by omega)
  | n + 1, m + 1, t, cs, ⟨h0, A1, c1, A2, c2, f, g, h1, h2, h3, h4, h5, h6, h7, h8, h9⟩, hm =>
    ⟨h0, A1, c1, A2, c2, f, g, h1, h2, h3, h4, h5, h6, h7, h8, fun i k hk => TrOk.mono (h9 i k hk) (by omega)⟩
/-- A tree kept by whatever leaves all that was there. -/
theorem TrOk.kept {n : Nat} {t : Tr} {cs : List Value} (h : TrOk w w.heap.size n t cs) (hb : Below w.heap.size w w') : TrOk w' w'.heap.size n t cs := (h.below hb).more hb.size

theorem info_tree : Try.prog.cellsOf 25 = 3 ∧ Try.prog.cellsOf 88 = 2 ∧ Try.prog.cellsOf 23 = 1 ∧ Try.prog.cellsOf 22 = 1 ∧ Try.prog.cellsOf 9 = 1 ∧ Try.prog.cellsOf 28 = 1 ∧ Try.prog.cellsOf 5 = 1 := by
  refine ⟨?_, ?_, ?_, ?_, ?_, ?_, ?_⟩ <;> kernel_rfl
set_option maxRecDepth 100000 in
theorem sh_bytes {n : Nat} {cs : List Value} (h : Sh Try.prog w B n 28 cs) : ∃ (A : Option Addr) (c : Nat) (l : List Int), cs = [.slice A l.length c] ∧ l.length ≤ c ∧ c ≤ maxLen ∧ BytesOk l ∧ Rd w B 1 A l.length (l.flatMap encB) := by
  obtain ⟨A, len, cap, l, rfl, h1, h2, h3, h4, h5⟩ := sh_list (enc := encB) (ok := fun x => 0 ≤ x ∧ x < 256) Try.underlying28 info_tree.2.2.2.2.2.2 (by decide) (fun m cs h => by
    obtain ⟨x, rfl, hx⟩ := sh_int Try.underlying5 h
    exact ⟨x, rfl, wf_u8 hx⟩) h
  subst h3
  exact ⟨A, cap, l, rfl, h1, h2, h4, h5⟩
set_option maxRecDepth 100000 in
theorem sh_prop {n : Nat} {cs : List Value} (h : Sh Try.prog w B n 88 cs) : ∃ p, PrOk w B p cs := by
  obtain ⟨m, hl, hf⟩ := sh_struct Try.underlying88 h
  rw [info_tree.2.1] at hl
  obtain ⟨s, h0, hs⟩ := sh_string Try.underlying9 (sh_field hf 0 9 0 1 (by kernel_rfl) info_tree.2.2.2.2.1)
  obtain ⟨A, c, l, h1, hlc, hc, hb, hr⟩ := sh_bytes (sh_field hf 1 28 1 1 (by kernel_rfl) info_tree.2.2.2.2.2.1)
  match cs, hl with
  | [x, y], _ =>
    simp at h0 h1
    exact ⟨(s, l), hs, hb, A, c, by rw [h0, h1], hlc, hc, hr⟩
set_option maxRecDepth 100000 in
theorem sh_tree : ∀ (n : Nat) {cs : List Value}, Sh Try.prog w B n 25 cs → ∃ t, TrOk w B n t cs
  | 0, _, h => h.elim
  | n + 1, cs, h => by
    have hu : Try.prog.underlying 25 = some _ := Try.underlying25
    unfold Sh at h
    rw [hu] at h
    obtain ⟨hl, hf⟩ := h
    rw [info_tree.1] at hl
    obtain ⟨s, h0, hs⟩ := sh_string Try.underlying9 (sh_field hf 0 9 0 1 (by kernel_rfl) info_tree.2.2.2.2.1)
    have h1 := sh_field hf 1 22 1 1 (by kernel_rfl) info_tree.2.2.2.1
    have h2 := sh_field hf 2 23 2 1 (by kernel_rfl) info_tree.2.2.1
    match n with
    | 0 => exact h1.elim
    | m + 1 =>
      unfold Sh at h1 h2
      rw [show Try.prog.underlying 22 = some _ from Try.underlying22] at h1
      rw [show Try.prog.underlying 23 = some _ from Try.underlying23] at h2
      obtain ⟨A1, n1, c1, f, e1, hn1, hc1, hf1, hr1⟩ := h1
      obtain ⟨A2, n2, c2, g, e2, hn2, hc2, hf2, hr2⟩ := h2
      rw [info_tree.2.1] at hr1 hf1
      rw [info_tree.1] at hr2 hf2
      obtain ⟨F, hF⟩ := Go.Deep.choose_lt (α := Pr) (fun i hi => sh_prop (hf1 i hi).1)
      obtain ⟨G, hG⟩ := Go.Deep.choose_lt (α := Tr) (fun i hi => sh_tree m (hf2 i hi).1)
      refine ⟨.mk s ((List.range n1).map F) ((List.range n2).map G), hs, A1, c1, A2, c2, f, g, ?_, ?_, hc1, ?_, hc2, ?_, ?_, ?_, ?_⟩
      · match cs, hl with
        | [x, y, z], _ =>
          simp at h0 e1 e2
          simp [Tr.nm, Tr.ps, Tr.ks, h0, e1, e2]
      · simpa [Tr.ps] using hn1
      · simpa [Tr.ks] using hn2
      · intro hp
        simp only [Tr.ps, List.length_map, List.length_range] at hp
        obtain ⟨b, off, e, hB, hc⟩ := hr1 (by decide) hp
        exact ⟨b, off, e, hB, fun i hi j hj => hc i (by simpa [Tr.ps] using hi) j hj⟩
      · intro hp
        simp only [Tr.ks, List.length_map, List.length_range] at hp
        obtain ⟨b, off, e, hB, hc⟩ := hr2 (by decide) hp
        exact ⟨b, off, e, hB, fun i hi j hj => hc i (by simpa [Tr.ks] using hi) j hj⟩
      · intro i p hp
        obtain ⟨hi, rfl⟩ := List.getElem?_eq_some_iff.1 hp
        simp only [Tr.ps, List.length_map, List.length_range] at hi
        simpa [Tr.ps] using hF i hi
      · intro i k hk
        obtain ⟨hi, rfl⟩ := List.getElem?_eq_some_iff.1 hk
        simp only [Tr.ks, List.length_map, List.length_range] at hi
        have := hG i hi
        exact (by simpa [Tr.ks] using this : TrOk w B m _ (g i)).mono (by omega)
end
set_option maxRecDepth 100000 in
/-- A tree that came in. -/
theorem open_tree {H : Type} {enc : TypeId × Value → H} {W : World} {v : Value} {d : DataW H} {p : List MemPlace} {b0 : Nat} {r : Reach}
    (hv : Value.okWide Try.prog W r b0 25 v) (h : DataW.Trod enc Try.prog W 0 (fun _ => true) true 25 v d p) (hlt : ∀ x ∈ p, x.block < W.heap.size) :
    ∃ (cs : List Value) (n : Nat) (t : Tr), v = .agg cs.toArray ∧ TrOk W W.heap.size n t cs := by
  obtain ⟨cs, n, rfl, hs⟩ := open_sh (by exact Try.underlying25) hv h hlt
  obtain ⟨t, ht⟩ := sh_tree n hs
  exact ⟨cs, n, t, rfl, ht⟩
end Go.Proofs.Ytnkpaockginooaa
namespace Go.Proofs.Ytnkpaockginooaa
set_option linter.unusedVariables false
set_option linter.unusedSimpArgs false
open Go.RowKit Go.Sort

set_option maxRecDepth 100000 in
set_option maxHeartbeats 2000000 in
theorem size_any : ∀ (k : Nat) (t : Tr) (cs : List Value) (n d : Int) (w : World), TrOk w w.heap.size k t cs →
    Calls Try.prog 34 #[.agg cs.toArray, .int .i64 n, .int .i64 d] w fun e w' => (∃ r : Int, e = .returned (.int .i64 r)) ∧ Below w.heap.size w w'
  | 0, _, _, _, _, _, h => h.elim
  | k + 1, t, cs, n, d, w, h => by
    have ih := size_any k
    have HT := Lib.hid h
    obtain ⟨h0, A1, c1, A2, c2, f, g, rfl, h2, h3, h4, h5, h6, h7, h8, h9⟩ := h
    have HF := Lib.hid h6
    have HG := Lib.hid h7
    have HP := Lib.hid h8
    have HK := Lib.hid h9
    have HI := Lib.hid ih
    obtain ⟨np, hnp⟩ : ∃ np, t.ps.length = np := ⟨_, rfl⟩
    obtain ⟨nk, hnk⟩ : ∃ nk, t.ks.length = nk := ⟨_, rfl⟩
    rw [hnp] at h2 HF HT ⊢
    rw [hnk] at h4 HG HT ⊢
    have HNp := Lib.hid hnp
    have HNk := Lib.hid hnk
    generalize t.nm = nm at *
    unfold maxLen at h3 h5
    clear h6 h7 h8 h9 ih h0 HT hnp hnk
    go_enter Try.func34, Try.ntmps34
    go_upto_region 2 with (fail)
    generalize wrap64 (n + wrap64 (1 + (np : Int))) = m at *
    have hT := Blk.new w 25 #[.string nm, .slice A1 np c1, .slice A2 nk c2]
    have hb := bal (Below.refl w.heap.size w) (.cells #[.string nm, .slice A1 np c1, .slice A2 nk c2] 25)
    generalize w.alloc (.cells #[.string nm, .slice A1 np c1, .slice A2 nk c2] 25) = w1 at *
    have cT := hT.cell
    by_cases q0 : 12 < d
    · have e0 : decide (12 < d) = true := decide_eq_true q0
      go_wp2
      go_ret
      exact ⟨⟨_, rfl⟩, hb⟩
    · have e0 : decide (12 < d) = false := decide_eq_false q0
      by_cases q1 : 400 < m
      · skip
        go_wp2
        go_ret
        exact ⟨⟨_, rfl⟩, hb⟩
      · skip
        by_cases q2 : 100 < nm.size
        · skip
          go_wp2
          go_ret
          exact ⟨⟨_, rfl⟩, hb⟩
        · skip
          by_cases q3 : 400 < nk
          · skip
            go_wp2
            go_ret
            exact ⟨⟨_, rfl⟩, hb⟩
          · skip
            go_wp2
            go_loopw [38] (fun i wr => ∃ j : Nat, j ≤ np ∧ i = .int .i64 j ∧ Below w1.heap.size w1 wr) (fun i _ => np - (intOf i).toNat)
            case atStart => exact ⟨0, by omega, rfl, Below.refl _ _⟩
            case round =>
              obtain ⟨j, hj, rfl, hbr⟩ := hrel
              have hbw := hb.trans (hbr.mono hb.size)
              clear cT
              by_cases hlt : j < np
              · obtain ⟨p, hp⟩ : ∃ p, t.ps[j]? = some p := ⟨_, List.getElem?_eq_getElem (by rw [HNp.out]; exact hlt)⟩
                obtain ⟨_, _, Ap, cp, hfj, hcp1, hcp2, _⟩ := HP.out j p hp
                obtain ⟨b1, o1, rfl, hbk, hc1⟩ := HF.out (by omega)
                have x0 := (hbw.cell (p := ⟨b1, o1 + (j * 2 + 0), none⟩) hbk).trans (hc1 j hlt 0 (by omega))
                have x1 := (hbw.cell (p := ⟨b1, o1 + (j * 2 + 1), none⟩) hbk).trans (hc1 j hlt 1 (by omega))
                rw [hfj] at x0 x1
                simp only [Nat.add_zero, ← Nat.add_assoc, List.getElem?_cons_zero, List.getElem?_cons_succ] at x0 x1
                clear hc1 hfj hp
                generalize p.2.length = pl at *
                obtain ⟨pn, pb⟩ := p
                simp only at x0
                unfold maxLen at hcp2
                by_cases z0 : 100 < pn.size
                · skip
                  go_wp2
                  go_ret
                  exact ⟨⟨_, rfl⟩, bal hbw _⟩
                · skip
                  by_cases z1 : 5000 < pl
                  · skip
                    go_wp2
                    go_ret
                    exact ⟨⟨_, rfl⟩, bal hbw _⟩
                  · skip
                    go_wp2
                    go_roundw
                    case rel => exact ⟨j + 1, by omega, by go_num, bal' hbr _ hbr.size⟩
                    case measure => simp [intOf]; omega
              · obtain rfl : j = np := by omega
                have cT := (hT.kept hbr).cell
                go_wp2
                go_loopw [1, 56] (fun mv i wr2 => ∃ (mm : Int) (j : Nat), j ≤ nk ∧ mv = .int .i64 mm ∧ i = .int .i64 j ∧ Below w.heap.size w wr2) (fun _ i _ => nk - (intOf i).toNat)
                case atStart => exact ⟨m, 0, by omega, rfl, rfl, hbw⟩
                case round =>
                  clear hbr hbw cT
                  obtain ⟨mm, i, hi, rfl, rfl, hbr⟩ := hrel
                  by_cases hlt : i < nk
                  · obtain ⟨kd, hkd⟩ : ∃ kd, t.ks[i]? = some kd := ⟨_, List.getElem?_eq_getElem (by rw [HNk.out]; exact hlt)⟩
                    have hK := HK.out i kd hkd
                    obtain ⟨b2, o2, rfl, hbk, hc2⟩ := HG.out (by omega)
                    have x0 := (hbr.cell (p := ⟨b2, o2 + (i * 3 + 0), none⟩) hbk).trans (hc2 i hlt 0 (by omega))
                    have x1 := (hbr.cell (p := ⟨b2, o2 + (i * 3 + 1), none⟩) hbk).trans (hc2 i hlt 1 (by omega))
                    have x2 := (hbr.cell (p := ⟨b2, o2 + (i * 3 + 2), none⟩) hbk).trans (hc2 i hlt 2 (by omega))
                    have hK2 := (hK.below hbr).more hbr.size
                    obtain ⟨sn, K1, n1, cc1, K2, n2, cc2, hv⟩ : ∃ (sn : ByteArray) (K1 : Option Addr) (n1 cc1 : Nat) (K2 : Option Addr) (n2 cc2 : Nat), g i = [.string sn, .slice K1 n1 cc1, .slice K2 n2 cc2] := by
                      cases k with
                      | zero => exact hK.elim
                      | succ k =>
                        obtain ⟨_, _, _, _, _, _, _, e, _⟩ := hK
                        exact ⟨_, _, _, _, _, _, _, e⟩
                    rw [hv] at x0 x1 x2 hK2
                    have HK2 := Lib.hid hK2
                    simp only [Nat.add_zero, ← Nat.add_assoc, List.getElem?_cons_zero, List.getElem?_cons_succ] at x0 x1 x2
                    clear hc2 hK hkd hv hK2
                    have hx := bal (Below.refl wr.heap.size wr) (.cells #[.string sn, .slice K1 n1 cc1, .slice K2 n2 cc2] 25)
                    have HX := Lib.hid hx
                    have hb6 := hbr.trans (hx.mono hbr.size)
                    have HC := Lib.hid (fun (r d : Int) => HI.out kd _ r d _ ((HK2.out.below hx).more hx.size))
                    clear hx HK2
                    go_upto_region 14 with (go_at_call 34; refine (HC.out _ _).mono ?_; rintro e w5 ⟨⟨r, rfl⟩, hb5⟩)
                    have hb7 := hb6.trans (hb5.mono hb6.size)
                    by_cases q5 : 400 < r
                    · go_wp2
                      go_ret
                      exact ⟨⟨_, rfl⟩, hb7⟩
                    · go_wp2
                      go_roundw
                      case rel => exact ⟨r, i + 1, by omega, rfl, by go_num, hb7⟩
                      case measure => simp [intOf]; omega
                  · go_wp2
                    go_ret
                    exact ⟨⟨_, rfl⟩, hbr⟩
end Go.Proofs.Ytnkpaockginooaa
