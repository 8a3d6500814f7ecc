/- The tree of a guest: what it is; a tree in a box of its own that grows. -/
import Derived.Test.YtnkpaockginooaaHostE
import Derived.Test.YtnkpaockginooaaOfC
import Derived.Test.YtnkpaockginooaaConfG
import Derived.Test.YtnkpaockginooaaMayD
namespace Go.Proofs.Ytnkpaockginooaa
set_option linter.unusedVariables false
set_option linter.unusedSimpArgs false
open Go.RowKit Go.Sort

/-- Names: #address-cells, #size-cells, compatible, model, interrupts, streams, device_type, reg, perm, peer. -/
abbrev nAddr : ByteArray := ⟨#[35, 97, 100, 100, 114, 101, 115, 115, 45, 99, 101, 108, 108, 115]⟩
abbrev nSize : ByteArray := ⟨#[35, 115, 105, 122, 101, 45, 99, 101, 108, 108, 115]⟩
def bitG (cpus : Int) (i : Nat) : Bool := bits .and .u32 (cpus / 2 ^ i) 1 == 1
def cpuG (i : Nat) : Tr := .mk (strOfNums (atN [99, 112, 117] i)) [(⟨#[100, 101, 118, 105, 99, 101, 95, 116, 121, 112, 101]⟩, strB ⟨#[99, 112, 117]⟩ ++ [0]), (⟨#[114, 101, 103]⟩, [(i : Int)].flatMap (bytesN 4 false))] []
def cpuPs : List Pr := [(⟨#[35, 97, 100, 100, 114, 101, 115, 115, 45, 99, 101, 108, 108, 115]⟩, [1].flatMap (bytesN 4 false)), (⟨#[35, 115, 105, 122, 101, 45, 99, 101, 108, 108, 115]⟩, [0].flatMap (bytesN 4 false))]
def cpusG (cpus : Int) : Tr := .mk ⟨#[99, 112, 117, 115]⟩ cpuPs (((List.range 32).filter (bitG cpus)).map cpuG)
def winG (x : Wn) : Tr := .mk (strOfNums (atN [109, 101, 109, 111, 114, 121] x.ipa.toNat)) [(⟨#[100, 101, 118, 105, 99, 101, 95, 116, 121, 112, 101]⟩, strB ⟨#[109, 101, 109, 111, 114, 121]⟩ ++ [0]), (⟨#[114, 101, 103]⟩, [x.ipa, x.size].flatMap (bytesN 8 false)), (⟨#[112, 101, 114, 109]⟩, [IntKind.u32.wrap x.perm].flatMap (bytesN 4 false))] []
def devG (x : Dv) : Tr := .mk (strOfNums (atN [100, 101, 118, 105, 99, 101] x.ipa.toNat)) [(⟨#[114, 101, 103]⟩, [x.ipa, x.size].flatMap (bytesN 8 false))] []
def peerG (gs : List (Gs × Gp)) (o : Int) : ByteArray := if 0 ≤ o ∧ o < gs.length then ((gs.map fun g => g.1.nm).getD o.toNat ⟨#[]⟩) else ⟨#[]⟩
def chanG (size : Int) (peer : ByteArray) (e : En) : Tr := .mk (strOfNums (atN [99, 104, 97, 110, 110, 101, 108] e.ipa.toNat)) [(⟨#[99, 111, 109, 112, 97, 116, 105, 98, 108, 101]⟩, strB ⟨#[112, 111, 114, 116, 114, 101, 101, 118, 101, 44, 99, 104, 97, 110, 110, 101, 108]⟩ ++ [0]), (⟨#[114, 101, 103]⟩, [e.ipa, size].flatMap (bytesN 8 false)),
  (⟨#[112, 101, 101, 114]⟩, strB peer ++ [0]), (⟨#[112, 101, 114, 109]⟩, [IntKind.u32.wrap e.perm].flatMap (bytesN 4 false))] []
def end0G (gs : List (Gs × Gp)) (g : Int) (x : Ch) : List Tr := if x.e0.guest = g then [chanG x.size (peerG gs x.e1.guest) x.e0] else []
def end1G (gs : List (Gs × Gp)) (g : Int) (x : Ch) : List Tr := if x.e1.guest = g then [chanG x.size (peerG gs x.e0.guest) x.e1] else []
def chansG (gs : List (Gs × Gp)) (g : Int) (x : Ch) : List Tr := end0G gs g x ++ end1G gs g x
def endsG (gs : List (Gs × Gp)) (g : Int) (x : Ch) : Nat → List Tr
  | 0 => []
  | 1 => end0G gs g x
  | _ => chansG gs g x
theorem endsG_0 (gs : List (Gs × Gp)) (g : Int) (x : Ch) : endsG gs g x 0 = [] := rfl
def rootPs (x : Gs) : List Pr := [(⟨#[35, 97, 100, 100, 114, 101, 115, 115, 45, 99, 101, 108, 108, 115]⟩, [2].flatMap (bytesN 4 false)), (⟨#[35, 115, 105, 122, 101, 45, 99, 101, 108, 108, 115]⟩, [2].flatMap (bytesN 4 false)), (⟨#[99, 111, 109, 112, 97, 116, 105, 98, 108, 101]⟩, strB ⟨#[112, 111, 114, 116, 114, 101, 101, 118, 101, 44, 103, 117, 101, 115, 116]⟩ ++ [0]),
  (⟨#[109, 111, 100, 101, 108]⟩, strB x.nm ++ [0]), (⟨#[105, 110, 116, 101, 114, 114, 117, 112, 116, 115]⟩, (x.qs.map fun q => IntKind.u32.wrap q.num).flatMap (bytesN 4 false)), (⟨#[115, 116, 114, 101, 97, 109, 115]⟩, x.ss.flatMap (bytesN 4 false))]
def guestG (c : Cf) (g : Nat) (x : Gs) : Tr := .mk ⟨#[]⟩ (rootPs x) ([cpusG x.cpus] ++ x.ws.map winG ++ x.ds.map devG ++ c.cs.flatMap (chansG c.gs g))
theorem info_u32G : (Try.prog.info? 44).map (fun i => (i.zero, i.size, i.bytes)) = some (some (.int .u32 0), 1, 4) := by kernel_rfl
theorem u32_elemG : ElemInfo Try.prog 102 44 1 4 := by
  obtain ⟨i, hi, hz, hs, hb⟩ := info_parts info_u32G
  exact ⟨Try.underlying102, ⟨i, _, hi, hz, hs, hb, rfl⟩, by decide⟩
theorem wrap32_in (x : Int) : 0 ≤ IntKind.u32.wrap x ∧ IntKind.u32.wrap x < 4294967296 := by show 0 ≤ x % 4294967296 ∧ x % 4294967296 < 4294967296; omega
def zT : Tr := .mk ⟨#[]⟩ [] []
/-- What Guest answers. -/
noncomputable def guestA (x : Cf) (gi : Int) : Tr × Int := if 0 ≤ gi ∧ gi < x.gs.length then (match x.gs[gi.toNat]? with | some g => if mayT (guestG x gi.toNat g.1) then (guestG x gi.toNat g.1, 0) else (zT, 240) | none => (zT, 1)) else (zT, 1)
def GuestP (x : Cf) (gi : Int) (w : World) (e : Ending) (w' : World) : Prop := ∃ v, e = .returned (.tuple #[v, .int .i64 (guestA x gi).2]) ∧ TrP (fun _ => False) (guestA x gi).1 w' v ∧ Below w.heap.size w w'
/-- A tree in a box, which grows by nodes; its rows lie in none of the blocks X. -/
structure TB (w : World) (X : Nat → Prop) (tb base : Nat) (nm : ByteArray) (ps : List Pr) (ks : List Tr) (vps vks : Value) : Prop where
  box : Blk w tb 25 #[.string nm, vps, vks]
  ps : PsP X ps w vps
  ks : OwnTs w X base ks vks
  size : base ≤ w.heap.size
section
variable {w w' : World} {X : Nat → Prop} {tb base : Nat} {nm : ByteArray} {ps : List Pr} {ks : List Tr} {vps vks : Value}
theorem PsP.kept {v : Value} (h : PsP X ps w v) (hb : Below w.heap.size w w') : PsP X ps w' v := h.turn (Same.of_below hb)
theorem TB.kept (h : TB w X tb base nm ps ks vps vks) (hb : Below w.heap.size w w') : TB w' X tb base nm ps ks vps vks := ⟨h.box.kept hb, h.ps.kept hb, h.ks.kept hb, Nat.le_trans h.size hb.size⟩
theorem PsP.beside {v : Value} {n : Nat} {xs : List Value} (h : PsP X ps w v) (ho : w.ownsRow base 25 3 vks n xs) : PsP (fun b => X b ∨ vks.ownBlock = some b) ps w v := by
  obtain ⟨A, c, f, h1, h2, h3, h4, h5⟩ := h
  refine ⟨A, c, f, h1, h2, h3, fun hn => ?_, h5⟩
  obtain ⟨b, off, e, hx, ⟨cs, fz, ht⟩, hc⟩ := h4 hn
  refine ⟨b, off, e, fun hy => ?_, ⟨cs, fz, ht⟩, hc⟩
  rcases hy with hy | hy
  · exact hx hy
  · rcases ho.2 with ⟨rfl, _⟩ | ⟨g, cap, cur, rfl, _, hh, _⟩
    · simp [Value.ownBlock] at hy
    · have hy : g = b := by simpa [Value.ownBlock] using hy
      subst hy
      rw [hh] at ht
      simp only [Option.some.injEq, Obj.cells.injEq] at ht
      exact absurd ht.2.1 (by decide)
theorem PsP.moreB {v : Value} {g : Nat} {cs : Array Value} (h : PsP X ps w v) (hg : Blk w g 25 cs) : PsP (fun b => X b ∨ b = g) ps w v := by
  obtain ⟨A, c, f, h1, h2, h3, h4, h5⟩ := h
  exact ⟨A, c, f, h1, h2, h3, h4.more hg (by decide), h5⟩
theorem TB.add {t : Tr} {y : Value} (h : TB w X tb base nm ps ks vps vks) (hx : TsP (fun b => X b ∨ vks.ownBlock = some b) [t] w y) (hX : X tb) (hXb : ∀ b, X b → b < base) (hn : ks.length ≤ 1000000) :
    ∃ w' A c, (Builtin.append_ #[23, 23] 23 #[vks, y]).run Try.prog w = .ok (.slice A (ks.length + 1) c) w' ∧ Blk w' tb 25 #[.string nm, vps, vks] ∧
      TB (w'.setCell ⟨tb, 2, none⟩ (.slice A (ks.length + 1) c)) X tb base nm ps (ks ++ [t]) vps (.slice A (ks.length + 1) c) ∧ Below tb w (w'.setCell ⟨tb, 2, none⟩ (.slice A (ks.length + 1) c)) ∧ (∀ g T cs, g < base → g ≠ tb → Blk w g T cs → Blk (w'.setCell ⟨tb, 2, none⟩ (.slice A (ks.length + 1) c)) g T cs) ∧ ∀ g T cs, T ≠ 25 → Blk w g T cs → Blk (w'.setCell ⟨tb, 2, none⟩ (.slice A (ks.length + 1) c)) g T cs := by
  have htb := hXb _ hX
  obtain ⟨v', w', A, c, hr, hK, hb, hg', hv⟩ := h.ks.app2 23 h.size hx hn
  rw [List.length_append] at hv
  simp only [List.length_cons, List.length_nil, Nat.zero_add] at hv
  subst hv
  obtain ⟨xs, ho, _⟩ := id h.ks
  have hT := h.box.same (hb.block tb htb)
  have hP : PsP X ps w' vps := ((h.ps.beside ho).turn (Same.grown (X := fun b => X b ∨ vks.ownBlock = some b) ho (by decide) (fun i hi => .inr hi) hg')).less fun b hb => .inl hb
  have hs := Same.set_in (X := X) hT (by decide) hX 2 (.slice A (ks.length + 1) c)
  refine ⟨w', A, c, hr, hT, ⟨hT.set_ 2 _, hP.turn hs, ?_, by simp; have := hb.size; have := h.size; omega⟩, (hb.mono (Nat.le_of_lt htb)).setCell (p := ⟨tb, 2, none⟩) (Nat.le_refl _) _, fun g T cs hg hne hB => (hB.same (hb.block g hg)).far (p := ⟨tb, 2, none⟩) hne _, fun g T cs hT' hB => ?_⟩
  rotate_left
  · have h1 : Blk w' g T cs := hB.grown hg' (fun e => own_blk_ne ho hB (fun e' => hT' e'.symm) e)
    exact h1.far (p := ⟨tb, 2, none⟩) (h1.ne_ hT hT') _
  exact hK.turn hs (fun i hi => Below.heap_setCell _ _ _ _ (by have := (hK.lt hi).1; show i ≠ tb; omega))
theorem TB.tree (h : TB w X tb base nm ps ks vps vks) (hXb : ∀ b, X b → b < base) (hnm : nm.size ≤ maxLen) : TrP X (.mk nm ps ks) w (.agg #[.string nm, vps, vks]) := TrP.mk hnm h.ps (h.ks.ts hXb)
/-- Where a guest's tree is made: the configuration, the result, the guest, and the tree. -/
structure GI (w wr : World) (cfg : Array Value) (g : Gs × Gp) (X : Nat → Prop) (bz base : Nat) (ks : List Tr) (vps vks : Value) : Prop where
  cfg : Blk wr w.heap.size 48 cfg
  res : Blk wr (w.heap.size + 1) 25 #[.string ⟨#[]⟩, .slice none 0 0, .slice none 0 0]
  gst : Blk wr (w.heap.size + 2) 104 (gcells g).toArray
  tb : TB wr X bz base ⟨#[]⟩ (rootPs g.1) ks vps vks
  bel : Below w.heap.size w wr
theorem GI.kept {w wr w' : World} {cfg : Array Value} {g : Gs × Gp} {bz : Nat} (h : GI w wr cfg g X bz base ks vps vks) (hb : Below wr.heap.size wr w') : GI w w' cfg g X bz base ks vps vks :=
  ⟨h.cfg.kept hb, h.res.kept hb, h.gst.kept hb, h.tb.kept hb, h.bel.trans (hb.mono h.bel.size)⟩
theorem GI.add {w wr : World} {cfg : Array Value} {g : Gs × Gp} {bz : Nat} {t : Tr} {y : Value} (h : GI w wr cfg g X bz base ks vps vks) (hx : TsP (fun b => X b ∨ vks.ownBlock = some b) [t] wr y) (hX : X bz) (hXb : ∀ b, X b → b < base) (hz : w.heap.size + 2 < bz) (hn : ks.length ≤ 1000000) :
    ∃ w' A c, (Builtin.append_ #[23, 23] 23 #[vks, y]).run Try.prog wr = .ok (.slice A (ks.length + 1) c) w' ∧ Blk w' bz 25 #[.string ⟨#[]⟩, vps, vks] ∧
      GI w (w'.setCell ⟨bz, 2, none⟩ (.slice A (ks.length + 1) c)) cfg g X bz base (ks ++ [t]) vps (.slice A (ks.length + 1) c) ∧ ∀ g T cs, T ≠ 25 → Blk wr g T cs → Blk (w'.setCell ⟨bz, 2, none⟩ (.slice A (ks.length + 1) c)) g T cs := by
  have hzb := hXb _ hX
  obtain ⟨w', A, c, hr, hT, hM, hb, hB, hB'⟩ := h.tb.add hx hX hXb hn
  exact ⟨w', A, c, hr, hT, ⟨hB _ _ _ (by omega) (by omega) h.cfg, hB _ _ _ (by omega) (by omega) h.res, hB _ _ _ (by omega) (by omega) h.gst, hM, h.bel.trans (hb.mono (by omega))⟩, hB'⟩
theorem GI.xl {w wr : World} {cfg : Array Value} {g : Gs × Gp} {bz : Nat} (h : GI w wr cfg g X bz base ks vps vks) (hXb : ∀ b, X b → b < base) : ∀ (w' : World), Below wr.heap.size wr w' → ∀ b, (X b ∨ vks.ownBlock = some b) → b < w'.heap.size := fun w' hb b hx => by
  have := hb.size
  have := h.tb.size
  rcases hx with hx | hx
  · have := hXb b hx; omega
  · have := (h.tb.ks.lt hx).2; omega
theorem chans_len (gs : List (Gs × Gp)) (k : Int) (l : List Ch) : (l.flatMap (chansG gs k)).length ≤ 2 * l.length := by
  induction l with
  | nil => simp
  | cons y l ih =>
    have : (chansG gs k y).length ≤ 2 := by
      unfold chansG end0G end1G
      split <;> split <;> simp
    simp only [List.flatMap_cons, List.length_append, List.length_cons]
    omega
/-- A node as it is made: no nodes in it. -/
def NodeV (X : Nat → Prop) (nm : ByteArray) (ps : List Pr) : SP := ⟨fun w v => ∃ A c, v = .agg #[.string nm, .slice A ps.length c, .slice none 0 0] ∧ PsP X ps w (.slice A ps.length c), fun ⟨A, c, h1, h2⟩ hb => ⟨A, c, h1, (PsV X ps).mono h2 hb⟩⟩
/-- A row's cells, whatever becomes of other blocks. -/
theorem row_cells {α : Type} {enc : α → List Value} {w : World} {s : Nat} {A : Option Addr} {l : List α} (hr : Rd w w.heap.size s A l.length (l.flatMap enc)) (hs : ∀ y, (enc y).length = s) {j : Nat} {y : α} (hj : l[j]? = some y) :
    ∃ b o, A = some ⟨b, o, none⟩ ∧ ∀ i, i < s → ∀ w', Below w.heap.size w w' → w'.cell? ⟨b, o + j * s + i, none⟩ = (enc y)[i]? := by
  have hlt := (List.getElem?_eq_some_iff.1 hj).1
  obtain ⟨b, o, h1, h2, h3⟩ := hr.row hs (k := j) hlt rfl
  rw [(List.getElem?_eq_some_iff.1 hj).2] at h3
  exact ⟨b, o, h1, fun i hi w' hb => (hb.cell (p := ⟨b, o + j * s + i, none⟩) h2).trans (h3 i hi)⟩
theorem peer_len {w : World} {x : Cf} {A A2 : Option Addr} {c c2 : Nat} (h : fewN x.gs.length x.cs.length (x.gs.map toGd) = true) (o : Int) : (peerG x.gs o).size ≤ 100 := by
  unfold peerG
  split
  · rw [List.getD_eq_getElem?_getD, List.getElem?_map]
    rcases hg : x.gs[o.toNat]? with _ | g
    · exact Nat.zero_le _
    · exact ((few_yes h).2.2 g (List.mem_of_getElem? hg)).2.2.2.2
  · exact Nat.zero_le _
end
end Go.Proofs.Ytnkpaockginooaa
