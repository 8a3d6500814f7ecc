/- A configuration opened whole: its guests, what they name, its channels. -/
import Derived.Test.YtmhbpfclfffgkaaConfW
import Derived.Test.YtmhbpfclfffgkaaBytes
namespace Go.Proofs.Ytmhbpfclfffgkaa
set_option linter.unusedVariables false
set_option linter.unusedSimpArgs false
open Go.RowKit Go.Sort Go.ChangeShapes Go.WideShapes

def inU64 (x : Int) : Prop := 0 ≤ x ∧ x < 18446744073709551616
def inU32 (x : Int) : Prop := 0 ≤ x ∧ x < 4294967296
def inI64 (x : Int) : Prop := -9223372036854775808 ≤ x ∧ x ≤ 9223372036854775807
/-- A window, a device, an end of a channel, a channel; a guest; a configuration: what they hold. -/
structure Wn where
  ipa : Int
  pa : Int
  size : Int
  perm : Int
  deriving DecidableEq
def encWn (x : Wn) : List Value := [.int .u64 x.ipa, .int .u64 x.pa, .int .u64 x.size, .int .i64 x.perm]
def WnOk (x : Wn) : Prop := inU64 x.ipa ∧ inU64 x.pa ∧ inU64 x.size ∧ inI64 x.perm
structure Dv where
  ipa : Int
  pa : Int
  size : Int
  deriving DecidableEq
def encDv (x : Dv) : List Value := [.int .u64 x.ipa, .int .u64 x.pa, .int .u64 x.size]
def DvOk (x : Dv) : Prop := inU64 x.ipa ∧ inU64 x.pa ∧ inU64 x.size
def IqOk (x : Iq) : Prop := inI64 x.num ∧ inI64 x.cpu
structure En where
  guest : Int
  perm : Int
  ipa : Int
  deriving DecidableEq
def encEn (x : En) : List Value := [.int .i64 x.guest, .int .i64 x.perm, .int .u64 x.ipa]
def EnOk (x : En) : Prop := inI64 x.guest ∧ inI64 x.perm ∧ inU64 x.ipa
structure Ch where
  pa : Int
  size : Int
  e0 : En
  e1 : En
  deriving DecidableEq
def encCh (x : Ch) : List Value := [.int .u64 x.pa, .int .u64 x.size, .int .i64 x.e0.guest, .int .i64 x.e0.perm, .int .u64 x.e0.ipa, .int .i64 x.e1.guest, .int .i64 x.e1.perm, .int .u64 x.e1.ipa]
def ChOk (x : Ch) : Prop := inU64 x.pa ∧ inU64 x.size ∧ EnOk x.e0 ∧ EnOk x.e1
structure Gs where
  nm : ByteArray
  mand : Bool
  off : Int
  len : Int
  cpus : Int
  entry : Int
  dtb : Int
  key : List Int
  ws : List Wn
  ds : List Dv
  qs : List Iq
  ss : List Int
/-- Where its rows lie. -/
structure Gp where
  AW : Option Addr
  cW : Nat
  AD : Option Addr
  cD : Nat
  AI : Option Addr
  cI : Nat
  AS : Option Addr
  cS : Nat
def gcells (x : Gs × Gp) : List Value :=
  [.string x.1.nm, .bool x.1.mand, .int .u32 x.1.off, .int .u32 x.1.len, .int .u32 x.1.cpus, .int .u64 x.1.entry, .int .u64 x.1.dtb] ++ (x.1.key.flatMap encB ++
  [.slice x.2.AW x.1.ws.length x.2.cW, .slice x.2.AD x.1.ds.length x.2.cD, .slice x.2.AI x.1.qs.length x.2.cI, .slice x.2.AS x.1.ss.length x.2.cS])
/-- A guest's rows, below B. -/
structure GsR (w : World) (B : Nat) (x : Gs × Gp) : Prop where
  nm : x.1.nm.size ≤ maxLen
  off : inU32 x.1.off
  len : inU32 x.1.len
  cpus : inU32 x.1.cpus
  entry : inU64 x.1.entry
  dtb : inU64 x.1.dtb
  kl : x.1.key.length = 68
  kb : BytesOk x.1.key
  lW : x.1.ws.length ≤ x.2.cW ∧ x.2.cW ≤ maxLen
  lD : x.1.ds.length ≤ x.2.cD ∧ x.2.cD ≤ maxLen
  lI : x.1.qs.length ≤ x.2.cI ∧ x.2.cI ≤ maxLen
  lS : x.1.ss.length ≤ x.2.cS ∧ x.2.cS ≤ maxLen
  oW : ∀ y ∈ x.1.ws, WnOk y
  oD : ∀ y ∈ x.1.ds, DvOk y
  oI : ∀ y ∈ x.1.qs, IqOk y
  oS : ∀ y ∈ x.1.ss, inU32 y
  rW : Rd w B 4 x.2.AW x.1.ws.length (x.1.ws.flatMap encWn)
  rD : Rd w B 3 x.2.AD x.1.ds.length (x.1.ds.flatMap encDv)
  rI : Rd w B 3 x.2.AI x.1.qs.length (x.1.qs.flatMap encIq)
  rS : Rd w B 1 x.2.AS x.1.ss.length (x.1.ss.flatMap encU32)
theorem GsR.below {w w' : World} {B : Nat} {x : Gs × Gp} (h : GsR w B x) (hb : Below B w w') : GsR w' B x :=
  ⟨h.nm, h.off, h.len, h.cpus, h.entry, h.dtb, h.kl, h.kb, h.lW, h.lD, h.lI, h.lS, h.oW, h.oD, h.oI, h.oS, h.rW.below hb, h.rD.below hb, h.rI.below hb, h.rS.below hb⟩
theorem gcells_len {x : Gs × Gp} (h : x.1.key.length = 68) : (gcells x).length = 79 := by unfold gcells; simp only [List.length_append, flatB_len, h, List.length_cons, List.length_nil]
/-- .. as the guests that ConfF knows. -/
def toGd (x : Gs × Gp) : Gd := ⟨gcells x, x.1.nm, x.1.mand, x.2.AW, x.1.ws.length, x.2.cW, x.2.AD, x.1.ds.length, x.2.cD, x.2.AI, x.1.qs.length, x.2.cI, x.2.AS, x.1.ss.length, x.2.cS, x.1.qs, x.1.ss⟩
theorem gcells_tail {x : Gs × Gp} (h : x.1.key.length = 68) (j : Nat) : (gcells x)[75 + j]? = [Value.slice x.2.AW x.1.ws.length x.2.cW, .slice x.2.AD x.1.ds.length x.2.cD, .slice x.2.AI x.1.qs.length x.2.cI, .slice x.2.AS x.1.ss.length x.2.cS][j]? := by
  unfold gcells
  rw [List.getElem?_append_right (by simp only [List.length_cons, List.length_nil]; omega), List.getElem?_append_right (by rw [flatB_len, h]; simp only [List.length_cons, List.length_nil]; omega)]
  rw [flatB_len, h]
  congr 1
  simp only [List.length_cons, List.length_nil]
  omega
theorem toGd_ok {w : World} {B : Nat} {x : Gs × Gp} (h : GsR w B x) : GOk w B (toGd x) := by
  have ht := fun j => gcells_tail h.kl j
  refine ⟨gcells_len h.kl, ?_, rfl, rfl, ht 0, ht 1, ht 2, ht 3, rfl, rfl, h.rI, h.rS, fun y hy => h.oS y hy, ?_, ?_, ?_, ?_, ?_⟩
  · intro u hu
    simp only [toGd, gcells, List.mem_append, List.mem_cons, List.not_mem_nil, or_false] at hu
    rcases hu with (rfl | rfl | rfl | rfl | rfl | rfl | rfl) | hu | (rfl | rfl | rfl | rfl) <;> first | rfl | exact one_b _ u hu
  · exact ml (Nat.le_trans h.lI.1 h.lI.2)
  · exact ml (Nat.le_trans h.lS.1 h.lS.2)
  · exact ml (Nat.le_trans h.lW.1 h.lW.2)
  · exact ml (Nat.le_trans h.lD.1 h.lD.2)
  · exact ml h.nm
section
variable {w : World} {B : Nat}
theorem in_u64 {x : Int} (h : (Lit.int .u64 x).wf = true) : inU64 x := wf_u64 h
theorem in_u32 {x : Int} (h : (Lit.int .u32 x).wf = true) : inU32 x := wf_u32 h
theorem in_i64 {x : Int} (h : (Lit.int .i64 x).wf = true) : inI64 x := wf_i64 h
theorem list4 {α : Type} {cs : List α} {a b c d : α} (hl : cs.length = 4) (h0 : cs[0]? = some a) (h1 : cs[1]? = some b) (h2 : cs[2]? = some c) (h3 : cs[3]? = some d) : cs = [a, b, c, d] := by
  match cs, hl with
  | [x, y, z, u], _ =>
    simp at h0 h1 h2 h3
    rw [h0, h1, h2, h3]
theorem list7 {α : Type} {cs : List α} {a b c d e f g : α} (hl : cs.length = 7) (h0 : cs[0]? = some a) (h1 : cs[1]? = some b) (h2 : cs[2]? = some c) (h3 : cs[3]? = some d) (h4 : cs[4]? = some e) (h5 : cs[5]? = some f) (h6 : cs[6]? = some g) : cs = [a, b, c, d, e, f, g] := by
  match cs, hl with
  | [x, y, z, u, v, p, q], _ =>
    simp at h0 h1 h2 h3 h4 h5 h6
    rw [h0, h1, h2, h3, h4, h5, h6]
theorem sh_u64 (m : Nat) (cs : List Value) (h : Sh Try.prog w B m 61 cs) : ∃ x, cs = [.int .u64 x] ∧ inU64 x := by
  obtain ⟨x, rfl, hw⟩ := sh_int Try.underlying61 h
  exact ⟨x, rfl, in_u64 hw⟩
theorem sh_wn (m : Nat) (cs : List Value) (h : Sh Try.prog w B m 135 cs) : ∃ x, cs = encWn x ∧ WnOk x := by
  obtain ⟨m, hl, hf⟩ := sh_struct Try.underlying135 h
  have h0 := sh_field hf 0 61 0 1 rfl (by kernel_rfl)
  have h1 := sh_field hf 1 61 1 1 rfl (by kernel_rfl)
  have h2 := sh_field hf 2 61 2 1 rfl (by kernel_rfl)
  have h3 := sh_field hf 3 3 3 1 rfl (by kernel_rfl)
  obtain ⟨a, ha, wa⟩ := sh_int Try.underlying61 h0
  obtain ⟨b, hb, wb⟩ := sh_int Try.underlying61 h1
  obtain ⟨c, hc, wc⟩ := sh_int Try.underlying61 h2
  obtain ⟨d, hd, wd⟩ := sh_int Try.underlying3 h3
  rw [show Try.prog.cellsOf 135 = 4 by kernel_rfl] at hl
  exact ⟨⟨a, b, c, d⟩, list4 hl (piece1 ha) (piece1 hb) (piece1 hc) (piece1 hd), in_u64 wa, in_u64 wb, in_u64 wc, in_i64 wd⟩
theorem sh_dv (m : Nat) (cs : List Value) (h : Sh Try.prog w B m 137 cs) : ∃ x, cs = encDv x ∧ DvOk x := by
  obtain ⟨m, hl, hf⟩ := sh_struct Try.underlying137 h
  have h0 := sh_field hf 0 61 0 1 rfl (by kernel_rfl)
  have h1 := sh_field hf 1 61 1 1 rfl (by kernel_rfl)
  have h2 := sh_field hf 2 61 2 1 rfl (by kernel_rfl)
  obtain ⟨a, ha, wa⟩ := sh_int Try.underlying61 h0
  obtain ⟨b, hb, wb⟩ := sh_int Try.underlying61 h1
  obtain ⟨c, hc, wc⟩ := sh_int Try.underlying61 h2
  rw [show Try.prog.cellsOf 137 = 3 by kernel_rfl] at hl
  exact ⟨⟨a, b, c⟩, list3 hl (piece1 ha) (piece1 hb) (piece1 hc), in_u64 wa, in_u64 wb, in_u64 wc⟩
theorem sh_iqW (m : Nat) (cs : List Value) (h : Sh Try.prog w B m 139 cs) : ∃ q, cs = encIq q ∧ IqOk q := by
  obtain ⟨m, hl, hf⟩ := sh_struct Try.underlying139 h
  have h0 := sh_field hf 0 3 0 1 rfl (by kernel_rfl)
  have h1 := sh_field hf 1 3 1 1 rfl (by kernel_rfl)
  have h2 := sh_field hf 2 4 2 1 rfl (by kernel_rfl)
  obtain ⟨a, ha, wa⟩ := sh_int Try.underlying3 h0
  obtain ⟨b, hb, wb⟩ := sh_int Try.underlying3 h1
  obtain ⟨c, hc⟩ := sh_bool Try.underlying4 h2
  rw [show Try.prog.cellsOf 139 = 3 by kernel_rfl] at hl
  exact ⟨⟨a, b, c⟩, list3 hl (piece1 ha) (piece1 hb) (piece1 hc), in_i64 wa, in_i64 wb⟩
theorem sh_en (m : Nat) (cs : List Value) (h : Sh Try.prog w B m 74 cs) : ∃ x, cs = encEn x ∧ EnOk x := by
  obtain ⟨m, hl, hf⟩ := sh_struct Try.underlying74 h
  have h0 := sh_field hf 0 3 0 1 rfl (by kernel_rfl)
  have h1 := sh_field hf 1 3 1 1 rfl (by kernel_rfl)
  have h2 := sh_field hf 2 61 2 1 rfl (by kernel_rfl)
  obtain ⟨a, ha, wa⟩ := sh_int Try.underlying3 h0
  obtain ⟨b, hb, wb⟩ := sh_int Try.underlying3 h1
  obtain ⟨c, hc, wc⟩ := sh_int Try.underlying61 h2
  rw [show Try.prog.cellsOf 74 = 3 by kernel_rfl] at hl
  exact ⟨⟨a, b, c⟩, list3 hl (piece1 ha) (piece1 hb) (piece1 hc), in_i64 wa, in_i64 wb, in_u64 wc⟩
theorem sh_elem {P : Program} {n : Nat} {t e : TypeId} {m k : Nat} {cs : List Value} (hu : P.underlying t = some (.array m e)) (hk : P.cellsOf e = k) (h : Sh P w B n t cs) : ∃ n', ∀ i, i < m → Sh P w B n' e ((cs.drop (i * k)).take k) := by
  subst hk
  cases n with
  | zero => exact h.elim
  | succ n => unfold Sh at h; rw [hu] at h; exact ⟨n, h.2⟩
set_option maxRecDepth 100000 in
theorem sh_ch (m : Nat) (cs : List Value) (h : Sh Try.prog w B m 77 cs) : ∃ x, cs = encCh x ∧ ChOk x := by
  obtain ⟨m, hl, hf⟩ := sh_struct Try.underlying77 h
  have h0 := sh_field hf 0 61 0 1 rfl (by kernel_rfl)
  have h1 := sh_field hf 1 61 1 1 rfl (by kernel_rfl)
  have h2 := sh_field hf 2 75 2 6 rfl (by kernel_rfl)
  obtain ⟨a, ha, wa⟩ := sh_int Try.underlying61 h0
  obtain ⟨b, hb, wb⟩ := sh_int Try.underlying61 h1
  obtain ⟨n', hE⟩ := sh_elem (k := 3) Try.underlying75 (by kernel_rfl) h2
  obtain ⟨e0, h0', o0⟩ := sh_en _ _ (hE 0 (by decide))
  obtain ⟨e1, h1', o1⟩ := sh_en _ _ (hE 1 (by decide))
  rw [show Try.prog.cellsOf 77 = 8 by kernel_rfl] at hl
  refine ⟨⟨a, b, e0, e1⟩, ?_, in_u64 wa, in_u64 wb, o0, o1⟩
  match cs, hl with
  | [x0, x1, x2, x3, x4, x5, x6, x7], _ =>
    simp [encEn] at ha hb h0' h1'
    obtain ⟨rfl, rfl, rfl⟩ := h0'
    obtain ⟨rfl, rfl, rfl⟩ := h1'
    rw [ha, hb]
    rfl
theorem sh_gs (m : Nat) (cs : List Value) (h : Sh Try.prog w B m 70 cs) : ∃ x, cs = gcells x ∧ GsR w B x := by
  obtain ⟨m, hl, hf⟩ := sh_struct Try.underlying70 h
  rw [show Try.prog.cellsOf 70 = 79 by kernel_rfl] at hl
  have h0 := sh_field hf 0 9 0 1 rfl (by kernel_rfl)
  have h1 := sh_field hf 1 4 1 1 rfl (by kernel_rfl)
  have h2 := sh_field hf 2 24 2 1 rfl (by kernel_rfl)
  have h3 := sh_field hf 3 24 3 1 rfl (by kernel_rfl)
  have h4 := sh_field hf 4 24 4 1 rfl (by kernel_rfl)
  have h5 := sh_field hf 5 61 5 1 rfl (by kernel_rfl)
  have h6 := sh_field hf 6 61 6 1 rfl (by kernel_rfl)
  have hK := sh_field hf 7 64 7 68 rfl (by kernel_rfl)
  have hW := sh_field hf 8 65 75 1 rfl (by kernel_rfl)
  have hD := sh_field hf 9 66 76 1 rfl (by kernel_rfl)
  have hI := sh_field hf 10 67 77 1 rfl (by kernel_rfl)
  have hS := sh_field hf 11 68 78 1 rfl (by kernel_rfl)
  obtain ⟨nm, e0, mn⟩ := sh_string Try.underlying9 h0
  obtain ⟨mand, e1⟩ := sh_bool Try.underlying4 h1
  obtain ⟨off, e2, w2⟩ := sh_int Try.underlying24 h2
  obtain ⟨len, e3, w3⟩ := sh_int Try.underlying24 h3
  obtain ⟨cpus, e4, w4⟩ := sh_int Try.underlying24 h4
  obtain ⟨entry, e5, w5⟩ := sh_int Try.underlying61 h5
  obtain ⟨dtb, e6, w6⟩ := sh_int Try.underlying61 h6
  obtain ⟨nK, hKe⟩ := sh_elem (k := 1) Try.underlying64 (by kernel_rfl) hK
  have hKl : ((cs.drop 7).take 68).length = 68 := by rw [List.length_take, List.length_drop, hl]; decide
  obtain ⟨key, kl, ke, kb⟩ : ∃ key : List Int, key.length = 68 ∧ (cs.drop 7).take 68 = key.flatMap encB ∧ BytesOk key := by
    generalize (cs.drop 7).take 68 = ks at *
    have hx : ∀ i, i < 68 → ∃ x : Int, ks[i]? = some (.int .u8 x) ∧ 0 ≤ x ∧ x < 256 := fun i hi => by
      obtain ⟨x, hx, hw⟩ := sh_int Try.underlying5 (hKe i hi)
      rw [Nat.mul_one] at hx
      exact ⟨x, piece1 hx, wf_u8 hw⟩
    clear hKe
    have key : ∀ (ks : List Value), (∀ i, i < ks.length → ∃ x : Int, ks[i]? = some (.int .u8 x) ∧ 0 ≤ x ∧ x < 256) → ∃ l : List Int, l.length = ks.length ∧ ks = l.flatMap encB ∧ BytesOk l := by
      intro ks
      induction ks with
      | nil => intro _; exact ⟨[], rfl, rfl, fun x h => by cases h⟩
      | cons v ks ih =>
        intro hx
        obtain ⟨x, h0, hb⟩ := hx 0 (by simp)
        obtain ⟨l, h1, h2, h3⟩ := ih fun i hi => by
          have := hx (i + 1) (by simp; omega)
          simpa using this
        simp at h0
        subst h0
        refine ⟨x :: l, by simp [h1], by rw [List.flatMap_cons, ← h2]; rfl, fun y hy => ?_⟩
        rcases List.mem_cons.1 hy with rfl | hy
        · exact hb
        · exact h3 y hy
    obtain ⟨l, h1, h2, h3⟩ := key ks fun i hi => hx i (by omega)
    exact ⟨l, by omega, h2, h3⟩
  obtain ⟨AW, nW, cW, ws, eW, lW, mW, lenW, oW, rW⟩ := sh_list (enc := encWn) (ok := WnOk) Try.underlying65 (k := 4) (by kernel_rfl) (by decide) sh_wn hW
  obtain ⟨AD, nD, cD, ds, eD, lD, mD, lenD, oD, rD⟩ := sh_list (enc := encDv) (ok := DvOk) Try.underlying66 (k := 3) (by kernel_rfl) (by decide) sh_dv hD
  obtain ⟨AI, nI, cI, irqs, eI, lI, mI, lenI, oI, rI⟩ := sh_list (enc := encIq) (ok := IqOk) Try.underlying67 (k := 3) (by kernel_rfl) (by decide) sh_iqW hI
  obtain ⟨AS, nS, cS, strs, eS, lS, mS, lenS, oS, rS⟩ := sh_list (enc := encU32) (ok := fun x => 0 ≤ x ∧ x < 4294967296) Try.underlying68 (k := 1) (by kernel_rfl) (by decide) sh_u32 hS
  subst lenW lenD lenI lenS
  refine ⟨(⟨nm, mand, off, len, cpus, entry, dtb, key, ws, ds, irqs, strs⟩, ⟨AW, cW, AD, cD, AI, cI, AS, cS⟩), ?_, mn, in_u32 w2, in_u32 w3, in_u32 w4, in_u64 w5, in_u64 w6, kl, kb, ⟨lW, mW⟩, ⟨lD, mD⟩, ⟨lI, mI⟩, ⟨lS, mS⟩, oW, oD, oI, oS, rW, rD, rI, rS⟩
  have hsplit : cs = cs.take 7 ++ ((cs.drop 7).take 68 ++ cs.drop 75) := by
    rw [show cs.drop 75 = (cs.drop 7).drop 68 by rw [List.drop_drop], List.take_append_drop, List.take_append_drop]
  have ha : cs.take 7 = [.string nm, .bool mand, .int .u32 off, .int .u32 len, .int .u32 cpus, .int .u64 entry, .int .u64 dtb] := by
    refine list7 (by rw [List.length_take, hl]; decide) ?_ ?_ ?_ ?_ ?_ ?_ ?_ <;> rw [List.getElem?_take, if_pos (by decide)]
    · exact piece1 e0
    · exact piece1 e1
    · exact piece1 e2
    · exact piece1 e3
    · exact piece1 e4
    · exact piece1 e5
    · exact piece1 e6
  have hb : cs.drop 75 = [.slice AW ws.length cW, .slice AD ds.length cD, .slice AI irqs.length cI, .slice AS strs.length cS] := by
    refine list4 (by rw [List.length_drop, hl]) ?_ ?_ ?_ ?_ <;> rw [List.getElem?_drop]
    · exact piece1 eW
    · exact piece1 eD
    · exact piece1 eI
    · exact piece1 eS
  rw [hsplit, ha, ke, hb]
  rfl
end
/-- A configuration: its version, guests, channels; and how it reads. -/
structure Cf where
  ver : Int
  gs : List (Gs × Gp)
  cs : List Ch
structure CfR (w : World) (B : Nat) (x : Cf) (A : Option Addr) (c : Nat) (A2 : Option Addr) (c2 : Nat) : Prop where
  ver : inU32 x.ver
  lg : x.gs.length ≤ c ∧ c ≤ maxLen
  lc : x.cs.length ≤ c2 ∧ c2 ≤ maxLen
  og : ∀ g ∈ x.gs, GsR w B g
  oc : ∀ g ∈ x.cs, ChOk g
  rg : Rd w B 79 A x.gs.length (x.gs.flatMap gcells)
  rc : Rd w B 8 A2 x.cs.length (x.cs.flatMap encCh)
theorem CfR.below {w w' : World} {B : Nat} {x : Cf} {A A2 : Option Addr} {c c2 : Nat} (h : CfR w B x A c A2 c2) (hb : Below B w w') : CfR w' B x A c A2 c2 :=
  ⟨h.ver, h.lg, h.lc, fun g hg => (h.og g hg).below hb, h.oc, h.rg.below hb, h.rc.below hb⟩
theorem GsR.more {w : World} {B B' : Nat} {x : Gs × Gp} (h : GsR w B x) (hb : B ≤ B') : GsR w B' x :=
  ⟨h.nm, h.off, h.len, h.cpus, h.entry, h.dtb, h.kl, h.kb, h.lW, h.lD, h.lI, h.lS, h.oW, h.oD, h.oI, h.oS, h.rW.more hb, h.rD.more hb, h.rI.more hb, h.rS.more hb⟩
theorem CfR.more {w : World} {B B' : Nat} {x : Cf} {A A2 : Option Addr} {c c2 : Nat} (h : CfR w B x A c A2 c2) (hb : B ≤ B') : CfR w B' x A c A2 c2 :=
  ⟨h.ver, h.lg, h.lc, fun g hg => (h.og g hg).more hb, h.oc, h.rg.more hb, h.rc.more hb⟩
section
variable {H : Type} {enc : TypeId × Value → H} {w : World}
set_option maxRecDepth 100000 in
theorem open_conf {r : Reach} {b0 : Nat} {v : Value} {d : DataW H} {p : List MemPlace}
    (hv : Value.okWide Try.prog w r b0 28 v) (h : DataW.Trod enc Try.prog w 0 (fun _ => true) true 28 v d p) (hlt : ∀ x ∈ p, x.block < w.heap.size) :
    ∃ (x : Cf) (A : Option Addr) (c : Nat) (A2 : Option Addr) (c2 : Nat), v = .agg #[.int .u32 x.ver, .slice A x.gs.length c, .slice A2 x.cs.length c2] ∧ CfR w w.heap.size x A c A2 c2 := by
  obtain ⟨cs, m, rfl, hs⟩ := open_sh Try.underlying28 hv h hlt
  obtain ⟨m, hl, hf⟩ := sh_struct Try.underlying28 hs
  rw [show Try.prog.cellsOf 28 = 3 by kernel_rfl] at hl
  have h0 := sh_field hf 0 24 0 1 rfl (by kernel_rfl)
  have h1 := sh_field hf 1 25 1 1 rfl (by kernel_rfl)
  have h2 := sh_field hf 2 26 2 1 rfl (by kernel_rfl)
  obtain ⟨ver, e0, w0⟩ := sh_int Try.underlying24 h0
  obtain ⟨A, n, c, gs, e1, l1, m1, lg, hg, rg⟩ := sh_list (enc := gcells) (ok := GsR w w.heap.size) Try.underlying25 (k := 79) (by kernel_rfl) (by decide) sh_gs h1
  obtain ⟨A2, n2, c2, chs, e2, l2, m2, lc, hc, rc⟩ := sh_list (enc := encCh) (ok := ChOk) Try.underlying26 (k := 8) (by kernel_rfl) (by decide) sh_ch h2
  subst lg lc
  exact ⟨⟨ver, gs, chs⟩, A, c, A2, c2, by rw [list3 hl (piece1 e0) (piece1 e1) (piece1 e2)], in_u32 w0, ⟨l1, m1⟩, ⟨l2, m2⟩, hg, hc, rg, rc⟩
end
theorem conf_row {w : World} {x : Cf} {A A2 : Option Addr} {c c2 : Nat} (h : CfR w w.heap.size x A c A2 c2) {k : Nat} {g : Gs × Gp} (hk : x.gs[k]? = some g) : ∃ b o, A = some ⟨b, o, none⟩ ∧ b < w.heap.size ∧ w.rangeAt b (o + k * 79) (gcells g) := by
  have hr : Rd w w.heap.size 79 A x.gs.length ((x.gs.map toGd).flatMap gcs) := by
    rw [List.flatMap_map]
    exact h.rg
  have hG := gRows_of (gs := x.gs.map toGd) (by simp) (fun g hg => by
    obtain ⟨y, hy, rfl⟩ := List.mem_map.1 hg
    exact toGd_ok (h.og y hy)) hr
  obtain ⟨b, o, h1, h2, h3⟩ := hG k (List.getElem?_eq_some_iff.1 hk).1
  refine ⟨b, o, h1, h2, ?_⟩
  have e : (x.gs.map toGd).getD k zG = toGd g := by rw [List.getD_eq_getElem?_getD, List.getElem?_map, hk]; rfl
  rw [e] at h3
  exact h3
theorem few_conf {w : World} {x : Cf} {A A2 : Option Addr} {c c2 : Nat} (h : CfR w w.heap.size x A c A2 c2) (W : World) (hb : Below w.heap.size w W) :
    Calls Try.prog 16 #[.agg #[.int .u32 x.ver, .slice A x.gs.length c, .slice A2 x.cs.length c2]] W fun e w' => e = .returned (.bool (fewN x.gs.length x.cs.length (x.gs.map toGd))) ∧ Below W.heap.size W w' := by
  have hr : Rd w w.heap.size 79 A x.gs.length ((x.gs.map toGd).flatMap gcs) := by
    rw [List.flatMap_map]
    exact h.rg
  have hg : ∀ g ∈ x.gs.map toGd, GOk w w.heap.size g := fun g hg => by
    obtain ⟨y, hy, rfl⟩ := List.mem_map.1 hg
    exact toGd_ok (h.og y hy)
  exact fewC_any x.ver A x.gs.length c A2 x.cs.length c2 (x.gs.map toGd) W (by simp) (ml (Nat.le_trans h.lg.1 h.lg.2)) (ml (Nat.le_trans h.lc.1 h.lc.2)) (gsOk_of (by simp) hg) (GRows.below (gRows_of (by simp) hg hr) hb)
theorem few_yes {x : Cf} (h : fewN x.gs.length x.cs.length (x.gs.map toGd) = true) : x.gs.length ≤ 20 ∧ x.cs.length ≤ 40 ∧ ∀ g ∈ x.gs, g.1.ws.length ≤ 20 ∧ g.1.ds.length ≤ 20 ∧ g.1.qs.length ≤ 70 ∧ g.1.ss.length ≤ 40 ∧ g.1.nm.size ≤ 100 := by
  obtain ⟨h1, h2, _⟩ := fewN_iff (by simp) h
  refine ⟨h1, h2, fun g hg => ?_⟩
  simp only [fewN, Bool.and_eq_true, List.all_eq_true, List.mem_map] at h
  have := h.2 _ ⟨g, hg, rfl⟩
  simp [fewG, toGd] at this
  obtain ⟨⟨⟨⟨h1, h2⟩, h3⟩, h4⟩, h5⟩ := this
  exact ⟨Nat.not_lt.1 (of_decide_eq_false h1), Nat.not_lt.1 (of_decide_eq_false h2), Nat.not_lt.1 (of_decide_eq_false h3), Nat.not_lt.1 (of_decide_eq_false h4), Nat.not_lt.1 (of_decide_eq_false h5)⟩
end Go.Proofs.Ytmhbpfclfffgkaa
