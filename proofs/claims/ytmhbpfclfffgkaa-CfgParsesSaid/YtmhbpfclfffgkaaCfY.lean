/- Chapter 14: the parser's guests; walked. -/
import Derived.Test.YtmhbpfclfffgkaaCfT
import Derived.Test.YtmhbpfclfffgkaaCfV
import Derived.Test.YtmhbpfclfffgkaaCfW
import Derived.Test.YtmhbpfclfffgkaaCfX
import Derived.Test.YtmhbpfclfffgkaaCfC
namespace Go.Proofs.Ytmhbpfclfffgkaa
set_option linter.unusedVariables false
set_option linter.unusedSimpArgs false
open Go.RowKit Go.Sort

/-- A guest whose rows are the call's own, behind the parser's box. -/
def OwnG (p : Prs) (w : World) (e : TypeId) (k : Nat) (A : Option Addr) (c n : Nat) (xs : List Value) : Prop := ∃ base, p.g < base ∧ w.ownsRow base e k (.slice A n c) n xs
structure GOwn (p : Prs) (x : Gs × Gp) (w : World) : Prop where
  nm : x.1.nm.size ≤ maxLen
  off : inU32 x.1.off
  len : inU32 x.1.len
  cpus : inU32 x.1.cpus
  entry : inU64 x.1.entry
  dtb : inU64 x.1.dtb
  kl : x.1.key.length = 68
  kb : BytesOk x.1.key
  oW : ∀ y ∈ x.1.ws, WnOk y
  oD : ∀ y ∈ x.1.ds, DvOk y
  oI : ∀ y ∈ x.1.qs, IqOk y
  oS : ∀ y ∈ x.1.ss, inU32 y
  rW : OwnG p w 135 4 x.2.AW x.2.cW x.1.ws.length (x.1.ws.flatMap encWn)
  rD : OwnG p w 137 3 x.2.AD x.2.cD x.1.ds.length (x.1.ds.flatMap encDv)
  rI : OwnG p w 139 3 x.2.AI x.2.cI x.1.qs.length (x.1.qs.flatMap encIq)
  rS : OwnG p w 24 1 x.2.AS x.2.cS x.1.ss.length (x.1.ss.flatMap encU32)
section
variable {p : Prs} {w w' : World} {e : TypeId} {k c n : Nat} {A : Option Addr} {xs : List Value}
theorem OwnG.near (h : OwnG p w e k A c n xs) (hn : Near (fun i => i = p.g) w w') : OwnG p w' e k A c n xs := by
  obtain ⟨base, hg, ho⟩ := h
  exact ⟨base, hg, own_near_g ho hg hn⟩
theorem OwnG.apart {g : Nat} {t : TypeId} {cs : Array Value} (h : OwnG p w e k A c n xs) (hB : Blk w g t cs) (hne : e ≠ t) (hn : Near (fun i => i = g) w w') : OwnG p w' e k A c n xs := by
  obtain ⟨base, hg, ho⟩ := h
  exact ⟨base, hg, own_same ho fun j hj => hn.block j (own_lt ho hj).2 (fun he => own_blk_ne ho hB hne (by rw [hj, he]))⟩
theorem own_rows_ne {base base2 k2 n2 : Nat} {e2 : TypeId} {v v2 : Value} {xs2 : List Value} (h : w.ownsRow base e k v n xs) (h2 : w.ownsRow base2 e2 k2 v2 n2 xs2) (hne : e ≠ e2) {j : Nat} (hj : v.ownBlock = some j) : v2.ownBlock ≠ some j := by
  intro hj2
  rcases h.2 with ⟨rfl, _⟩ | ⟨g, cap, cur, rfl, _, hh, _⟩
  · simp [Value.ownBlock] at hj
  rcases h2.2 with ⟨rfl, _⟩ | ⟨g2, cap2, cur2, rfl, _, hh2, _⟩
  · simp [Value.ownBlock] at hj2
  simp only [Value.ownBlock, Option.some.injEq] at hj hj2
  subst hj
  subst hj2
  rw [hh] at hh2
  simp only [Option.some.injEq, Obj.cells.injEq] at hh2
  exact hne hh2.2.1
theorem OwnG.grown {base2 k2 n2 : Nat} {e2 : TypeId} {v2 : Value} {xs2 : List Value} (h : OwnG p w e k A c n xs) (h2 : w.ownsRow base2 e2 k2 v2 n2 xs2) (hne : e ≠ e2) (hg : w.grownBy w' v2.ownBlock) : OwnG p w' e k A c n xs := by
  obtain ⟨base, hb, ho⟩ := h
  exact ⟨base, hb, own_same ho fun j hj => hg.block j (own_lt ho hj).2 (fun he => own_rows_ne ho h2 hne hj he.symm)⟩
theorem OwnG.rd (h : OwnG p w e k A c n xs) : n ≤ c ∧ c ≤ maxLen ∧ Rd w w.heap.size k A n xs := by
  obtain ⟨base, hb, ho⟩ := h
  refine ⟨?_, ?_, Rd.of_own ho⟩
  · rcases ho.2 with ⟨h1, h2⟩ | ⟨g, cap, cur, h1, _, _, h3, h4, _⟩
    · injection h1 with _ _ h1; omega
    · injection h1 with _ _ h1; omega
  · rcases ho.2 with ⟨h1, h2⟩ | ⟨g, cap, cur, h1, _, _, h3, h4, _⟩
    · injection h1 with _ _ h1; omega
    · injection h1 with _ _ h1; omega
end
theorem GOwn.map {p : Prs} {x : Gs × Gp} {w w' : World} (h : GOwn p x w) (H : ∀ {e k A c n xs}, e ≠ 70 → OwnG p w e k A c n xs → OwnG p w' e k A c n xs) : GOwn p x w' :=
  ⟨h.nm, h.off, h.len, h.cpus, h.entry, h.dtb, h.kl, h.kb, h.oW, h.oD, h.oI, h.oS, H (by decide) h.rW, H (by decide) h.rD, H (by decide) h.rI, H (by decide) h.rS⟩
theorem GOwn.gsR {p : Prs} {x : Gs × Gp} {w : World} (h : GOwn p x w) : GsR w w.heap.size x :=
  ⟨h.nm, h.off, h.len, h.cpus, h.entry, h.dtb, h.kl, h.kb, ⟨h.rW.rd.1, h.rW.rd.2.1⟩, ⟨h.rD.rd.1, h.rD.rd.2.1⟩, ⟨h.rI.rd.1, h.rI.rd.2.1⟩, ⟨h.rS.rd.1, h.rS.rd.2.1⟩, h.oW, h.oD, h.oI, h.oS, h.rW.rd.2.2, h.rD.rd.2.2, h.rI.rd.2.2, h.rS.rd.2.2⟩
section
variable (nm : ByteArray) (m : Bool) (o l c e d : Int) (k : List Int) (ws : List Wn) (ds : List Dv) (qs : List Iq) (ss : List Int) (P : Gp)
theorem gset1 (v : Bool) : (gcells (⟨nm, m, o, l, c, e, d, k, ws, ds, qs, ss⟩, P)).toArray.setIfInBounds 1 (.bool v) = (gcells (⟨nm, v, o, l, c, e, d, k, ws, ds, qs, ss⟩, P)).toArray := by simp [gcells]
theorem gset2 (v : Int) : (gcells (⟨nm, m, o, l, c, e, d, k, ws, ds, qs, ss⟩, P)).toArray.setIfInBounds 2 (.int .u32 v) = (gcells (⟨nm, m, v, l, c, e, d, k, ws, ds, qs, ss⟩, P)).toArray := by simp [gcells]
theorem gset3 (v : Int) : (gcells (⟨nm, m, o, l, c, e, d, k, ws, ds, qs, ss⟩, P)).toArray.setIfInBounds 3 (.int .u32 v) = (gcells (⟨nm, m, o, v, c, e, d, k, ws, ds, qs, ss⟩, P)).toArray := by simp [gcells]
theorem gset4 (v : Int) : (gcells (⟨nm, m, o, l, c, e, d, k, ws, ds, qs, ss⟩, P)).toArray.setIfInBounds 4 (.int .u32 v) = (gcells (⟨nm, m, o, l, v, e, d, k, ws, ds, qs, ss⟩, P)).toArray := by simp [gcells]
theorem gset5 (v : Int) : (gcells (⟨nm, m, o, l, c, e, d, k, ws, ds, qs, ss⟩, P)).toArray.setIfInBounds 5 (.int .u64 v) = (gcells (⟨nm, m, o, l, c, v, d, k, ws, ds, qs, ss⟩, P)).toArray := by simp [gcells]
theorem gset6 (v : Int) : (gcells (⟨nm, m, o, l, c, e, d, k, ws, ds, qs, ss⟩, P)).toArray.setIfInBounds 6 (.int .u64 v) = (gcells (⟨nm, m, o, l, c, e, v, k, ws, ds, qs, ss⟩, P)).toArray := by simp [gcells]
theorem gsetK (v : List Int) (h : v.length = k.length) : setAt (gcells (⟨nm, m, o, l, c, e, d, k, ws, ds, qs, ss⟩, P)).toArray 7 (v.flatMap encB) = (gcells (⟨nm, m, o, l, c, e, d, v, ws, ds, qs, ss⟩, P)).toArray := by
  have := setAt_parts (v.flatMap encB) (k.flatMap encB) [.string nm, .bool m, .int .u32 o, .int .u32 l, .int .u32 c, .int .u64 e, .int .u64 d] [.slice P.AW ws.length P.cW, .slice P.AD ds.length P.cD, .slice P.AI qs.length P.cI, .slice P.AS ss.length P.cS] (by rw [flatB_len, flatB_len, h])
  exact this
theorem gset_tail (h7 k68 t : List Value) (j : Nat) (v : Value) (h1 : h7.length = 7) (h2 : k68.length = 68) : (h7 ++ (k68 ++ t)).toArray.setIfInBounds (75 + j) v = (h7 ++ (k68 ++ t.set j v)).toArray := by
  rw [List.setIfInBounds_toArray, List.set_append_right _ _ (by omega), List.set_append_right _ _ (by omega)]
  rw [h1, h2, show 75 + j - 7 - 68 = j by omega]
end
section
variable {nm : ByteArray} {m : Bool} {o l c e d : Int} {k : List Int} {ws : List Wn} {ds : List Dv} {qs : List Iq} {ss : List Int} {AW AD AI AS : Option Addr} {cW cD cI cS : Nat}
theorem gset75 (hk : k.length = 68) (v : List Wn) (A : Option Addr) (x n : Nat) (hn : v.length = n) : (gcells (⟨nm, m, o, l, c, e, d, k, ws, ds, qs, ss⟩, ⟨AW, cW, AD, cD, AI, cI, AS, cS⟩)).toArray.setIfInBounds 75 (.slice A n x) = (gcells (⟨nm, m, o, l, c, e, d, k, v, ds, qs, ss⟩, ⟨A, x, AD, cD, AI, cI, AS, cS⟩)).toArray := by
  subst hn; exact gset_tail _ _ _ 0 _ rfl (by rw [flatB_len]; exact hk)
theorem gset76 (hk : k.length = 68) (v : List Dv) (A : Option Addr) (x n : Nat) (hn : v.length = n) : (gcells (⟨nm, m, o, l, c, e, d, k, ws, ds, qs, ss⟩, ⟨AW, cW, AD, cD, AI, cI, AS, cS⟩)).toArray.setIfInBounds 76 (.slice A n x) = (gcells (⟨nm, m, o, l, c, e, d, k, ws, v, qs, ss⟩, ⟨AW, cW, A, x, AI, cI, AS, cS⟩)).toArray := by
  subst hn; exact gset_tail _ _ _ 1 _ rfl (by rw [flatB_len]; exact hk)
theorem gset77 (hk : k.length = 68) (v : List Iq) (A : Option Addr) (x n : Nat) (hn : v.length = n) : (gcells (⟨nm, m, o, l, c, e, d, k, ws, ds, qs, ss⟩, ⟨AW, cW, AD, cD, AI, cI, AS, cS⟩)).toArray.setIfInBounds 77 (.slice A n x) = (gcells (⟨nm, m, o, l, c, e, d, k, ws, ds, v, ss⟩, ⟨AW, cW, AD, cD, A, x, AS, cS⟩)).toArray := by
  subst hn; exact gset_tail _ _ _ 2 _ rfl (by rw [flatB_len]; exact hk)
theorem gset78 (hk : k.length = 68) (v : List Int) (A : Option Addr) (x n : Nat) (hn : v.length = n) : (gcells (⟨nm, m, o, l, c, e, d, k, ws, ds, qs, ss⟩, ⟨AW, cW, AD, cD, AI, cI, AS, cS⟩)).toArray.setIfInBounds 78 (.slice A n x) = (gcells (⟨nm, m, o, l, c, e, d, k, ws, ds, qs, v⟩, ⟨AW, cW, AD, cD, AI, cI, A, x⟩)).toArray := by
  subst hn; exact gset_tail _ _ _ 3 _ rfl (by rw [flatB_len]; exact hk)
end
theorem gzero (nm : ByteArray) : (Try.zeroCells70.setIfInBounds 0 (.string nm)) = (gcells (⟨nm, false, 0, 0, 0, 0, 0, List.replicate 68 0, [], [], [], []⟩, ⟨none, 0, none, 0, none, 0, none, 0⟩)).toArray := by kernel_rfl
theorem gcells_one (x : Gs × Gp) : (gcells x).toArray.all (·.oneCell') = true := by
  rw [List.all_toArray, List.all_eq_true]
  intro u hu
  simp only [gcells, List.mem_append, List.mem_cons, List.not_mem_nil, or_false] at hu
  rcases hu with (rfl | rfl | rfl | rfl | rfl | rfl | rfl) | hu | (rfl | rfl | rfl | rfl) <;> first | rfl | exact one_b _ u hu
theorem PCall.mono {α : Type} {f : FuncId} {args : Prs → Array Value} {s : PR α} {Rv Rv' : Prs → Nat → α → Value → World → Prop} (H : PCall f args s Rv) (h : ∀ p B x v w, Rv p B x v w → Rv' p B x v w) : PCall f args s Rv' := fun p b B a w hR hB ha =>
  (H p b B a w hR hB ha).mono fun e w' ⟨hn, ho⟩ => ⟨hn, ho.imp_right fun ⟨x, a', v, h1, h2, h3, h4⟩ => ⟨x, a', v, h1, h2, h _ _ _ _ _ h3, h4⟩⟩
theorem elem_of {e t : TypeId} {Z : Value} {size bytes : Nat} (ht : Try.prog.underlying t = some (.slice e)) (h : (Try.prog.info? e).map (fun i => (i.zero, i.size, i.bytes)) = some (some Z, size, bytes)) (hz : Z.cells.size = size) (hs : 0 < size) : ElemInfo Try.prog t e size bytes := by
  obtain ⟨i, hi, h1, h2, h3⟩ := info_parts h
  exact ⟨ht, ⟨i, _, hi, h1, h2, h3, hz⟩, hs⟩
theorem elemW : ElemInfo Try.prog 65 135 4 32 := elem_of (Z := .agg #[.int .u64 0, .int .u64 0, .int .u64 0, .int .i64 0]) Try.underlying65 (by kernel_rfl) rfl (by decide)
theorem elemD : ElemInfo Try.prog 66 137 3 24 := elem_of (Z := .agg #[.int .u64 0, .int .u64 0, .int .u64 0]) Try.underlying66 (by kernel_rfl) rfl (by decide)
theorem elemI : ElemInfo Try.prog 67 139 3 24 := elem_of (Z := .agg #[.int .i64 0, .int .i64 0, .bool false]) Try.underlying67 (by kernel_rfl) rfl (by decide)
theorem elemC : ElemInfo Try.prog 26 77 8 64 := elem_of (Z := .agg #[.int .u64 0, .int .u64 0, .int .i64 0, .int .i64 0, .int .u64 0, .int .i64 0, .int .i64 0, .int .u64 0]) Try.underlying26 (by kernel_rfl) rfl (by decide)
theorem elemS : ElemInfo Try.prog 68 24 1 4 := elem_of (Z := .int .u32 0) Try.underlying68 (by kernel_rfl) rfl (by decide)
theorem elemG : ElemInfo Try.prog 25 70 79 216 := elem_of (Z := .agg Try.zeroCells70) Try.underlying25 (by kernel_rfl) (by kernel_rfl) (by decide)
theorem one2 {l : List Value} (h : l.toArray.all (·.oneCell') = true) : ∀ u ∈ l, u.oneCell' = true := by rw [List.all_toArray, List.all_eq_true] at h; exact h
theorem plainW : ElemL 135 4 encWn (fun _ r _ => WnOk r) := ⟨fun _ => rfl, fun _ => one2 (by simp [encWn, Value.oneCell']), fun h _ => h, fun h _ _ => h⟩
theorem plainD : ElemL 137 3 encDv (fun _ r _ => DvOk r) := ⟨fun _ => rfl, fun _ => one2 (by simp [encDv, Value.oneCell']), fun h _ => h, fun h _ _ => h⟩
theorem plainI : ElemL 139 3 encIq (fun _ r _ => IqOk r) := ⟨fun _ => rfl, fun _ => one2 (by simp [encIq, Value.oneCell']), fun h _ => h, fun h _ _ => h⟩
theorem plainC : ElemL 77 8 encCh (fun _ r _ => ChOk r) := ⟨fun _ => rfl, fun _ => one2 (by simp [encCh, Value.oneCell']), fun h _ => h, fun h _ _ => h⟩
theorem plainS : ElemL 24 1 encU32 (fun _ r _ => inU32 r) := ⟨fun _ => rfl, fun _ => one2 (by simp [encU32, Value.oneCell']), fun h _ => h, fun h _ _ => h⟩
theorem plainG : ElemL 70 79 gcells GOwn := ⟨fun h => gcells_len h.kl, fun _ => one2 (gcells_one _), fun h hn => h.map fun _ ho => ho.near hn, fun h ho hg => h.map fun hne hr => hr.grown ho hne hg⟩
theorem oneW : PCall 101 (fun p => #[.pointer (some ⟨p.g, 0, none⟩)]) windowP (OneR (fun r => .agg (encWn r).toArray) id (fun _ r _ => WnOk r)) := window_any.mono fun _ _ x _ _ h => ⟨x, rfl, h.1, h.2⟩
theorem oneD : PCall 103 (fun p => #[.pointer (some ⟨p.g, 0, none⟩)]) devP (OneR (fun r => .agg (encDv r).toArray) id (fun _ r _ => DvOk r)) := dev_any.mono fun _ _ x _ _ h => ⟨x, rfl, h.1, h.2⟩
theorem oneI : PCall 105 (fun p => #[.pointer (some ⟨p.g, 0, none⟩)]) irqP (OneR (fun r => .agg (encIq r).toArray) id (fun _ r _ => IqOk r)) := irq_any.mono fun _ _ x _ _ h => ⟨x, rfl, h.1, h.2⟩
theorem oneC : PCall 67 (fun p => #[.pointer (some ⟨p.g, 0, none⟩)]) channelP (OneR (fun r => .agg (encCh r).toArray) id (fun _ r _ => ChOk r)) := channel_any.mono fun _ _ x _ _ h => ⟨x, rfl, h.1, h.2⟩
theorem oneS : PCall 62 (fun p => #[.pointer (some ⟨p.g, 0, none⟩)]) wordP (OneR (fun r => .int .u32 r) id (fun _ r _ => inU32 r)) := word_any.mono fun _ _ x _ _ h => ⟨x, rfl, h.1, h.2⟩
/-- A list of plain things. -/
theorem ListR.plain {T : TypeId} {k : Nat} {α : Type} {enc : α → List Value} {ok : α → Prop} {p : Prs} {B : Nat} {l : List α} {v : Value} {w : World} (h : ListR T k enc id (fun _ r _ => ok r) p B l v w) :
    ∃ A c, v = .slice A l.length c ∧ (∀ r ∈ l, ok r) ∧ OwnG p w T k A c l.length (l.flatMap enc) := by
  obtain ⟨L, base, hL, ho, hg, hown⟩ := h
  rw [List.map_id] at hL
  subst hL
  obtain ⟨A, c, rfl, _, _⟩ := own_slice hown
  exact ⟨A, c, rfl, ho, base, hg, hown⟩
end Go.Proofs.Ytmhbpfclfffgkaa
