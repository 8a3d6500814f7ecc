/- The document's writer (portreeveref22.flat): four, fill, text; walked. -/
import Derived.Test.YtnkpaockginooaaPutA
import Derived.Test.YtnkpaockginooaaRefW
import Derived.Test.YtnkpaockginooaaTreeE
namespace Go.Proofs.Ytnkpaockginooaa
set_option linter.unusedVariables false
set_option linter.unusedSimpArgs false
open Go.RowKit Go.Sort Go.Maps Go.WideShapes Go.ChangeShapes

def encN (p : ByteArray × Nat) : List Value := [.string p.1, .int .i64 p.2]
theorem info_placed : (Try.prog.info? 174).map (fun i => (i.zero, i.size, i.bytes)) = some (some (.agg #[.string ⟨#[]⟩, .int .i64 0]), 2, 24) := by kernel_rfl
theorem placed_elem : ElemInfo Try.prog 75 174 2 24 := by
  obtain ⟨i, hi, hz, hs, hb⟩ := info_parts info_placed
  exact ⟨Try.underlying75, ⟨i, _, hi, hz, hs, hb, rfl⟩, by decide⟩
/-- The document's writer in memory. -/
def FSt (w : World) (S : Nat → Prop) (g : Nat) (st : WS) : Prop := ∃ vb vx vn,
  Blk w g 77 #[vb, vx, vn] ∧ OwnS w S 5 1 vb st.b.length (st.b.flatMap encB) ∧ OwnS w S 5 1 vx st.x.length (st.x.flatMap encB) ∧ (∀ i, vb.ownBlock = some i → vx.ownBlock ≠ some i) ∧
  OwnS w S 174 2 vn st.n.length (st.n.flatMap encN) ∧ S g ∧ ∀ i, S i → i < w.heap.size
def FOut (S : Nat → Prop) (g : Nat) (st : WS) (w w' : World) : Prop := ∃ S', FSt w' S' g st ∧ Near S w w' ∧ ∀ i, S' i → S i ∨ w.heap.size ≤ i
theorem FSt.kept {w w' : World} {S : Nat → Prop} {g : Nat} {st : WS} (h : FSt w S g st) (hb : Below w.heap.size w w') : FSt w' S g st := by
  obtain ⟨vb, vx, vn, h1, h2, h3, h4, h5, h7, h9⟩ := h
  exact ⟨vb, vx, vn, h1.kept hb, h2.kept hb, h3.kept hb, h4, h5.kept hb, h7, fun i hi => Nat.lt_of_lt_of_le (h9 i hi) hb.size⟩
/-- .. its bytes in a block at bb or behind. -/
def FStB (w : World) (S : Nat → Prop) (g : Nat) (st : WS) (bb : Nat) : Prop := ∃ vb vx vn,
  Blk w g 77 #[vb, vx, vn] ∧ w.ownsRow bb 5 1 vb st.b.length (st.b.flatMap encB) ∧ OwnS w S 5 1 vx st.x.length (st.x.flatMap encB) ∧
  OwnS w S 174 2 vn st.n.length (st.n.flatMap encN) ∧ S g ∧ (∀ i, S i → i < bb) ∧ bb ≤ w.heap.size
theorem FStB.kept {w w' : World} {S : Nat → Prop} {g bb : Nat} {st : WS} (h : FStB w S g st bb) (hb : Below w.heap.size w w') : FStB w' S g st bb := by
  obtain ⟨vb, vx, vn, h1, h2, h3, h5, h7, h9, h10⟩ := h
  exact ⟨vb, vx, vn, h1.kept hb, own_kept h2 hb, h3.kept hb, h5.kept hb, h7, h9, Nat.le_trans h10 hb.size⟩
theorem FStB.st {w : World} {S : Nat → Prop} {g bb : Nat} {st : WS} (h : FStB w S g st bb) : FSt w (fun i => (S i ∨ bb ≤ i) ∧ i < w.heap.size) g st := by
  obtain ⟨vb, vx, vn, h1, h2, h3, h5, h7, h9, h10⟩ := h
  refine ⟨vb, vx, vn, h1, ⟨(OwnS.of (S := fun _ => True) h2 (fun _ _ => trivial)).1, fun k hk => ⟨.inr (own_lt h2 hk).1, (own_lt h2 hk).2⟩⟩, ⟨h3.1, fun k hk => ⟨.inl (h3.2 k hk), (own_lt h3.1 hk).2⟩⟩, fun i hi e => ?_, ⟨h5.1, fun k hk => ⟨.inl (h5.2 k hk), (own_lt h5.1 hk).2⟩⟩, ⟨.inl h7, h1.lt⟩, fun i hi => hi.2⟩
  have a := (own_lt h2 hi).1
  have b := h9 i (h3.2 i e)
  omega
theorem be4_one (x : Int) : be4 [x] = bytesN 4 false x := by simp [be4]
theorem be4_cons (x : Int) (l : List Int) : be4 (x :: l) = bytesN 4 false x ++ be4 l := by simp [be4]
set_option maxRecDepth 100000 in
set_option maxHeartbeats 2000000 in
theorem ffour_any (g : Nat) (st : WS) (S : Nat → Prop) (x : Int) (w : World) (hw : FSt w S g st) (hm : st.b.length ≤ 100000000) (hx0 : 0 ≤ x) (hx1 : x < 4294967296) :
    Calls Try.prog 39 #[.pointer (some ⟨g, 0, none⟩), .int .i64 x] w fun e w' => e = .returned (.tuple #[]) ∧ FStB w' S g ⟨st.b ++ bytesN 4 false x, st.x, st.n⟩ w.heap.size ∧ Near S w w' := by
  obtain ⟨vb, vx, vn, hB, hob, hox, hsep, hon, hSg, hSb⟩ := hw
  obtain ⟨A, c, rfl, _, hrd⟩ := own_slice hob.1
  obtain ⟨nb, hnb⟩ : ∃ n, st.b.length = n := ⟨_, rfl⟩
  rw [hnb] at hob hrd hm hB
  have HNb := Lib.hid hnb
  have HP := Lib.hid (refPut_any A nb c 4 st.b x false w hnb hm (by decide) hx0 (by omega) hrd)
  have cB := hB.cell
  have hgl := hB.lt
  have u1 : IntKind.u64.wrap x = x := by show x % 18446744073709551616 = _; omega
  have u2 : x % 18446744073709551616 = x := by omega
  clear hnb
  go_enter Try.func39, Try.ntmps39
  go_wp2_with (go_at_call 85; refine HP.out.mono ?_; rintro e w1 ⟨A1, c1, rfl, hown1, hb1⟩; have hB1 := hB.kept hb1; have cB1 := hB1.cell; have f1 := hB1.frozen)
  go_end0
  have hB2 := hB1.set_ 0 (.slice A1 (nb + 4) c1)
  have e1 : (st.b ++ bytesN 4 false x).length = nb + 4 := by rw [List.length_append, bytesN_len, HNb.out]
  refine ⟨rfl, ⟨.slice A1 (nb + 4) c1, vx, vn, hB2, ?_, (hox.kept hb1).set ⟨g, 0, none⟩ (own_blk_ne (hox.kept hb1).1 hB1 (by decide)) _, (hon.kept hb1).set ⟨g, 0, none⟩ (own_blk_ne (hon.kept hb1).1 hB1 (by decide)) _, hSg, hSb, by simpa using hb1.size⟩, (Near.of_below S hb1).setCell (p := ⟨g, 0, none⟩) hSg _⟩
  show World.ownsRow _ _ _ 1 _ (st.b ++ bytesN 4 false x).length ((st.b ++ bytesN 4 false x).flatMap encB)
  rw [e1]
  exact own_same hown1 fun k hk => Below.heap_setCell _ _ _ _ (by have := (own_lt hown1 hk).1; simp; omega)
def lenC : Option Value → Nat
  | some (.slice _ n _) => n
  | _ => 0
set_option maxRecDepth 100000 in
set_option maxHeartbeats 2000000 in
theorem ffill_any (g bb : Nat) (st : WS) (S : Nat → Prop) (w : World) (hw : FStB w S g st bb) (hm : st.b.length ≤ 90000000) :
    Calls Try.prog 83 #[.pointer (some ⟨g, 0, none⟩)] w fun e w' => e = .returned (.tuple #[]) ∧ FStB w' S g ⟨fillN st.b, st.x, st.n⟩ bb ∧ Near (fun i => i = g ∨ bb ≤ i) w w' := by
  obtain ⟨kk, hkk⟩ : ∃ kk, (4 - st.b.length % 4) % 4 = kk := ⟨_, rfl⟩
  obtain ⟨nb, hnb⟩ : ∃ n, st.b.length = n := ⟨_, rfl⟩
  rw [hnb] at hkk hm
  have HNb := Lib.hid hnb
  have hkk1 : (nb + kk) % 4 = 0 := by omega
  have hkk2 : kk ≤ 3 := by omega
  have hkk3 : ∀ j, j < kk → (nb + j) % 4 ≠ 0 := fun j hj => by omega
  have HKK := Lib.hid hkk
  have HW := Lib.hid hw
  have HK3 := Lib.hid hkk3
  have HK1 := Lib.hid hkk1
  clear hkk hnb hw hkk3 hkk1
  go_enter Try.func83, Try.ntmps83
  go_wp2_with fail
  go_loopw [] (fun wr => ∃ j : Nat, j ≤ kk ∧ FStB wr S g ⟨st.b ++ List.replicate j 0, st.x, st.n⟩ bb ∧ Near (fun i => i = g ∨ bb ≤ i) w wr) (fun wr => nb + kk - lenC (wr.cell? ⟨g, 0, none⟩))
  case atStart => exact ⟨0, by omega, by simpa using HW.out, Near.refl _ _⟩
  case round =>
    obtain ⟨j, hj, hw, hn⟩ := hrel
    have HWj := Lib.hid hw
    obtain ⟨vb, vx, vn, hB, hob, hox, hon, hSg, hSb, hbb⟩ := hw
    have hlen : (st.b ++ List.replicate j (0 : Int)).length = nb + j := by simp [HNb.out]
    have hob2 : wr.ownsRow bb 5 1 vb (nb + j) ((st.b ++ List.replicate j (0 : Int)).flatMap encB) := by rw [← hlen]; exact hob
    clear hlen hob
    obtain ⟨A, c, rfl, _, _⟩ := own_slice hob2
    have cB := hB.cell
    have fB := hB.frozen
    have hgl := hB.lt
    have hbX := bal (Below.refl wr.heap.size wr) (.cells #[.int .u8 0] 5)
    have hownX := own_kept hob2 hbX
    have hBX := hB.kept hbX
    have hoxX := hox.kept hbX
    have honX := hon.kept hbX
    have HM3 := Lib.hid (show nb + j + 1 ≤ maxLen by unfold maxLen; omega)
    have HM4 := Lib.hid (show (nb + j + 1) * 1 ≤ 140737488355328 by omega)
    by_cases hlt : j < kk
    · have e1 : (((nb : Int) + (j : Int)) % 4 != 0) = true := by
        have := HK3.out j hlt
        simp
        omega
      go_wp2_with (at_builtin; refine wpList_app u8_elem rfl (.tmp 13) (.tmp 14) rfl bb hownX rfl rfl (Rd.fresh _ _ _ 1 1 _ rfl) (by simp [Value.oneCell']) HM3.out HM4.out (by simp; omega) ?_; intro v1 w1 hown1 hb1 hg1; obtain ⟨A1, c1, rfl, _, _⟩ := own_slice hown1; have hne := own_blk_ne hownX hBX (by decide); have hB1 := hBX.grown hg1 hne; have cB1 := hB1.cell; have f1 := hB1.frozen)
      have hB2 := hB1.set_ 0 (.slice A1 (nb + j + 1) c1)
      have hF : FStB (w1.setCell ⟨g, 0, none⟩ (.slice A1 (nb + j + 1) c1)) S g ⟨st.b ++ List.replicate (j + 1) 0, st.x, st.n⟩ bb := by
        have elen : (st.b ++ List.replicate (j + 1) (0 : Int)).length = nb + j + 1 := by simp [HNb.out]; omega
        have eb : (st.b ++ List.replicate (j + 1) (0 : Int)).flatMap encB = (st.b ++ List.replicate j (0 : Int)).flatMap encB ++ [.int .u8 0] := by
          rw [List.replicate_succ', ← List.append_assoc, List.flatMap_append]
          rfl
        have hnw : ∀ k, (Value.slice A (nb + j) c).ownBlock = some k → bb ≤ k := fun k hk => (own_lt hownX hk).1
        refine ⟨.slice A1 (nb + j + 1) c1, vx, vn, hB2, ?_, (hoxX.keptBut hg1 fun i hi e => ?_).set ⟨g, 0, none⟩ ?_ _, (honX.keptBut hg1 fun i hi e => ?_).set ⟨g, 0, none⟩ ?_ _, hSg, hSb, ?_⟩
        · show World.ownsRow _ _ _ 1 _ (st.b ++ List.replicate (j + 1) (0 : Int)).length ((st.b ++ List.replicate (j + 1) (0 : Int)).flatMap encB)
          rw [elen, eb]
          refine own_same hown1 fun k hk => Below.heap_setCell _ _ _ _ (fun e => ?_)
          exact own_blk_ne hown1 hB1 (by decide) (by rw [hk]; simp at e; rw [e])
        · have a := hnw i e
          have b := hSb i (hox.2 i hi)
          omega
        · exact own_blk_ne (hoxX.keptBut hg1 fun i hi e => (by have a := hnw i e; have b := hSb i (hox.2 i hi); omega)).1 hB1 (by decide)
        · have a := hnw i e
          have b := hSb i (hon.2 i hi)
          omega
        · exact own_blk_ne (honX.keptBut hg1 fun i hi e => (by have a := hnw i e; have b := hSb i (hon.2 i hi); omega)).1 hB1 (by decide)
        · have := hg1.size
          simp at this ⊢
          omega
      have hN : Near (fun i => i = g ∨ bb ≤ i) w (w1.setCell ⟨g, 0, none⟩ (.slice A1 (nb + j + 1) c1)) := ((hn.alloc _).grown hg1 (fun k hk => .inr (own_lt hownX hk).1)).setCell (p := ⟨g, 0, none⟩) (.inl rfl) _
      have HF := Lib.hid hF
      have HN := Lib.hid hN
      have cR : (w1.setCell ⟨g, 0, none⟩ (.slice A1 (nb + j + 1) c1)).cell? ⟨g, 0, none⟩ = some (.slice A1 (nb + j + 1) c1) := hB2.cell 0
      have cW : wr.cell? ⟨g, 0, none⟩ = some (.slice A (nb + j) c) := hB.cell 0
      go_roundw
      case rel => exact ⟨j + 1, by omega, HF.out, HN.out⟩
      case measure => rw [cR, cW]; simp only [lenC]; omega
    · obtain rfl : j = kk := by omega
      have e1 : (((nb : Int) + (j : Int)) % 4 != 0) = false := by
        have := HK1.out
        simp
        omega
      go_wp2_with fail
      go_end0
      have ef : fillN st.b = st.b ++ List.replicate j 0 := by unfold fillN; rw [HNb.out, HKK.out]
      rw [ef]
      exact ⟨rfl, HWj.out, hn⟩
end Go.Proofs.Ytnkpaockginooaa
namespace Go.Proofs.Ytnkpaockginooaa
set_option linter.unusedVariables false
set_option linter.unusedSimpArgs false
open Go.RowKit Go.Sort Go.Maps Go.WideShapes Go.ChangeShapes

theorem own_own_ne {w : World} {b b' : Nat} {e e' : TypeId} {s s' n n' : Nat} {v v' : Value} {xs xs' : List Value} (h : w.ownsRow b e s v n xs) (h' : w.ownsRow b' e' s' v' n' xs') (hne : e ≠ e') : ∀ i, v.ownBlock = some i → v'.ownBlock ≠ some i := by
  intro i hi hi'
  rcases h.2 with ⟨rfl, _⟩ | ⟨g, cap, cur, rfl, _, hh, _⟩
  · simp [Value.ownBlock] at hi
  · rcases h'.2 with ⟨rfl, _⟩ | ⟨g', cap', cur', rfl, _, hh', _⟩
    · simp [Value.ownBlock] at hi'
    · have a : g = i := by simpa [Value.ownBlock] using hi
      have b : g' = i := by simpa [Value.ownBlock] using hi'
      subst a
      subst b
      rw [hh] at hh'
      simp only [Option.some.injEq, Obj.cells.injEq] at hh'
      exact hne hh'.2.1
theorem lookN_first : ∀ (l : List (ByteArray × Nat)) (k : Nat) (s : ByteArray) (v : Nat), (∀ q ∈ l.take k, q.1 ≠ s) → l[k]? = some (s, v) → lookN l s = some v
  | [], _, _, _, _, h => by simp at h
  | (a, x) :: l, 0, s, v, _, h => by
    simp only [List.getElem?_cons_zero, Option.some.injEq, Prod.mk.injEq] at h
    obtain ⟨rfl, rfl⟩ := h
    simp [lookN]
  | (a, x) :: l, k + 1, s, v, hn, h => by
    have h0 := hn (a, x) (by simp)
    simp only at h0
    simp only [lookN, if_neg h0]
    exact lookN_first l k s v (fun q hq => hn q (by simp [hq])) (by simpa using h)
theorem lookN_out : ∀ (l : List (ByteArray × Nat)) (s : ByteArray), (∀ q ∈ l, q.1 ≠ s) → lookN l s = none
  | [], _, _ => rfl
  | (a, x) :: l, s, hn => by
    have h0 := hn (a, x) (by simp)
    simp only at h0
    simp only [lookN, if_neg h0]
    exact lookN_out l s fun q hq => hn q (List.mem_cons_of_mem _ hq)
theorem fst_names {w w1 : World} {S : Nat → Prop} {g : Nat} {st : WS} {vb vx vn vn' : Value} {nn : List (ByteArray × Nat)} (hB : Blk w g 77 #[vb, vx, vn]) (hob : OwnS w S 5 1 vb st.b.length (st.b.flatMap encB)) (hox : OwnS w S 5 1 vx st.x.length (st.x.flatMap encB)) (hsep : ∀ i, vb.ownBlock = some i → vx.ownBlock ≠ some i)
    (hon : OwnS w S 174 2 vn st.n.length (st.n.flatMap encN)) (hSg : S g) (hSb : ∀ i, S i → i < w.heap.size) (hg : w.grownBy w1 vn.ownBlock) (hon1 : OwnS w1 (fun i => S i ∨ i = w.heap.size) 174 2 vn' nn.length (nn.flatMap encN)) :
    FOut S g ⟨st.b, st.x, nn⟩ w (w1.setCell ⟨g, 2, none⟩ vn') := by
  have hB1 := hB.grown hg (own_blk_ne hon.1 hB (by decide))
  have hB2 : Blk (w1.setCell ⟨g, 2, none⟩ vn') g 77 #[vb, vx, vn'] := hB1.set_ 2 vn'
  have ob1 := hob.keptBut hg fun i hi e => own_own_ne hob.1 hon.1 (by decide) i hi e
  have ox1 := hox.keptBut hg fun i hi e => own_own_ne hox.1 hon.1 (by decide) i hi e
  have z1 := hg.size
  have z5 : (w1.setCell ⟨g, 2, none⟩ vn').heap.size = w1.heap.size := by simp
  refine ⟨fun i => (S i ∨ w.heap.size ≤ i) ∧ i < w1.heap.size, ⟨vb, vx, vn', hB2, ?_, ?_, hsep, ?_, ⟨.inl hSg, hB1.lt⟩, fun i hi => by rw [z5]; exact hi.2⟩, ((Near.refl S w).grown hg fun k hk => hon.2 k hk).setCell (p := ⟨g, 2, none⟩) hSg _, fun i hi => hi.1⟩
  · have := ob1.set ⟨g, 2, none⟩ (own_blk_ne ob1.1 hB1 (by decide)) vn'
    exact ⟨this.1, fun k hk => ⟨.inl (this.2 k hk), by have := (own_lt this.1 hk).2; omega⟩⟩
  · have := ox1.set ⟨g, 2, none⟩ (own_blk_ne ox1.1 hB1 (by decide)) vn'
    exact ⟨this.1, fun k hk => ⟨.inl (this.2 k hk), by have := (own_lt this.1 hk).2; omega⟩⟩
  · have := hon1.set ⟨g, 2, none⟩ (own_blk_ne hon1.1 hB1 (by decide)) vn'
    exact ⟨this.1, fun k hk => ⟨by
      rcases this.2 k hk with h | h
      · exact .inl h
      · exact .inr (by omega), by have := (own_lt this.1 hk).2; omega⟩⟩
theorem fst_texts {w w2 w4 : World} {S : Nat → Prop} {g n2 : Nat} {st : WS} {vb vx vn v2 v4 : Value} {o : Obj} {x2 xn : List Value} {xx : List Int} (hB : Blk w g 77 #[vb, vx, vn]) (hob : OwnS w S 5 1 vb st.b.length (st.b.flatMap encB)) (hox : OwnS w S 5 1 vx st.x.length xn) (hsep : ∀ i, vb.ownBlock = some i → vx.ownBlock ≠ some i)
    (hon : OwnS w S 174 2 vn st.n.length (st.n.flatMap encN)) (hSg : S g) (hSb : ∀ i, S i → i < w.heap.size)
    (hg2 : w.grownBy w2 vx.ownBlock) (hox3 : OwnS (w2.alloc o) (fun i => S i ∨ i = w.heap.size) 5 1 v2 n2 x2) (hl2 : LocA w vx v2) (hg4 : (w2.alloc o).grownBy w4 v2.ownBlock)
    (hox4 : OwnS w4 (fun i => (S i ∨ i = w.heap.size) ∨ i = (w2.alloc o).heap.size) 5 1 v4 xx.length (xx.flatMap encB)) (hl4 : LocA (w2.alloc o) v2 v4) : FOut S g ⟨st.b, xx, st.n⟩ w (w4.setCell ⟨g, 1, none⟩ v4) := by
  have z2 := hg2.size
  have z4 := hg4.size
  have za : (w2.alloc o).heap.size = w2.heap.size + 1 := by simp
  have z5 : (w4.setCell ⟨g, 1, none⟩ v4).heap.size = w4.heap.size := by simp
  have hB3 := (hB.grown hg2 (own_blk_ne hox.1 hB (by decide))).alloc o
  have hB4 := hB3.grown hg4 (own_blk_ne hox3.1 hB3 (by decide))
  have hB5 : Blk (w4.setCell ⟨g, 1, none⟩ v4) g 77 #[vb, v4, vn] := hB4.set_ 1 v4
  have n2' : Near S w w2 := (Near.refl S w).grown hg2 fun k hk => hox.2 k hk
  have n3 : Near S w (w2.alloc o) := n2'.alloc o
  have n4 : Near S w w4 := n3.step ((Near.refl (fun i => S i ∨ i = w.heap.size) _).grown hg4 fun k hk => hox3.2 k hk) fun i hi => by
    rcases hi with h | h
    · exact .inl h
    · exact .inr (by omega)
  have n5 : Near S w (w4.setCell ⟨g, 1, none⟩ v4) := n4.setCell (p := ⟨g, 1, none⟩) hSg v4
  have hvb : ∀ i, vb.ownBlock = some i → i < w.heap.size ∧ v2.ownBlock ≠ some i ∧ v4.ownBlock ≠ some i := fun i hi => by
    have hlt := (own_lt hob.1 hi).2
    have h2 : v2.ownBlock ≠ some i := fun e => by
      rcases hl2 with h | h
      · exact hsep i hi (h ▸ e)
      · rw [h] at e
        simp only [Option.some.injEq] at e
        omega
    refine ⟨hlt, h2, fun e => ?_⟩
    rcases hl4 with h | h
    · exact h2 (h ▸ e)
    · rw [h] at e
      simp only [Option.some.injEq] at e
      omega
  have ob2 := hob.keptBut hg2 hsep
  have ob4 := (ob2.alloc o).keptBut hg4 fun i hi => (hvb i hi).2.1
  have ob5 := ob4.set ⟨g, 1, none⟩ (own_blk_ne ob4.1 hB4 (by decide)) v4
  have on2 := (hon.keptBut hg2 fun i hi e => own_own_ne hon.1 hox.1 (by decide) i hi e).alloc o
  have on4 := on2.keptBut hg4 fun i hi e => own_own_ne on2.1 hox3.1 (by decide) i hi e
  have on5 := on4.set ⟨g, 1, none⟩ (own_blk_ne on4.1 hB4 (by decide)) v4
  have ox5 := hox4.set ⟨g, 1, none⟩ (own_blk_ne hox4.1 hB4 (by decide)) v4
  refine ⟨fun i => (S i ∨ w.heap.size ≤ i) ∧ i < w4.heap.size, ⟨vb, v4, vn, hB5, ⟨ob5.1, fun k hk => ⟨.inl (ob5.2 k hk), by have := (own_lt ob5.1 hk).2; omega⟩⟩, ⟨ox5.1, fun k hk => ⟨?_, by have := (own_lt ox5.1 hk).2; omega⟩⟩, fun i hi => (hvb i hi).2.2, ⟨on5.1, fun k hk => ⟨.inl (on5.2 k hk), by have := (own_lt on5.1 hk).2; omega⟩⟩, ⟨.inl hSg, hB4.lt⟩, fun i hi => by rw [z5]; exact hi.2⟩, n5, fun i hi => hi.1⟩
  rcases ox5.2 k hk with (h | h) | h
  · exact .inl h
  · exact .inr (by omega)
  · exact .inr (by omega)
set_option maxRecDepth 100000 in
set_option maxHeartbeats 2000000 in
theorem ftext_any (g : Nat) (st : WS) (s : ByteArray) (S : Nat → Prop) (w : World) (hw : FSt w S g st) (hs : s.size ≤ 1000) (hx : st.x.length ≤ 1000000) (hn : st.n.length ≤ 1000000) :
    Calls Try.prog 84 #[.pointer (some ⟨g, 0, none⟩), .string s] w fun e w' => e = .returned (.int .i64 (textS st s).2) ∧ FOut S g (textS st s).1 w w' := by
  have HW := Lib.hid hw
  obtain ⟨vb, vx, vn, hB, hob, hox, hsep, hon, hSg, hSb⟩ := hw
  have cB := hB.cell
  have hgl := hB.lt
  obtain ⟨An, cn, hvn, _, hrn⟩ := own_slice hon.1
  obtain ⟨nn, hnn⟩ : ∃ n, st.n.length = n := ⟨_, rfl⟩
  rw [hnn] at hrn hvn hn
  subst hvn
  have HNn := Lib.hid hnn
  have HRn := Lib.hid hrn
  have HBk := Lib.hid hB
  have HOb := Lib.hid hob
  have HOx := Lib.hid hox
  have HOn := Lib.hid hon
  have HSb := Lib.hid hSb
  have HSep := Lib.hid hsep
  clear hnn hrn hB hob hox hon hSb hsep
  go_enter Try.func84, Try.ntmps84
  go_wp2_with fail
  go_loopw [13] (fun i wr => ∃ k : Nat, k ≤ nn ∧ i = .int .i64 k ∧ Hid (∀ q ∈ st.n.take k, q.1 ≠ s) ∧ Below w.heap.size w wr) (fun i _ => nn - (intOf i).toNat)
  case atStart => exact ⟨0, by omega, rfl, by simp [Hid], Below.refl _ _⟩
  case round =>
    obtain ⟨k, hk, rfl, hne, hb⟩ := hrel
    clear cB
    have cB := (HBk.out.kept hb).cell
    have hbz := hb.size
    by_cases hlt : k < nn
    · obtain ⟨p, hp⟩ : ∃ p, st.n[k]? = some p := ⟨_, List.getElem?_eq_getElem (by rw [HNn.out]; exact hlt)⟩
      obtain ⟨b1, o1, rfl, hb1, hd1⟩ := (HRn.out.below hb).row (enc := encN) (fun _ => rfl) (k := k) (by rw [HNn.out]; exact hlt) HNn.out
      have hg1 : st.n[k]'(by rw [HNn.out]; exact hlt) = p := (List.getElem?_eq_some_iff.1 hp).2
      have d0 := hd1 0 (by omega)
      have d1 := hd1 1 (by omega)
      rw [hg1] at d0 d1
      obtain ⟨ps, pv⟩ := p
      simp only [encN, Nat.add_zero, List.getElem?_cons_zero, List.getElem?_cons_succ] at d0 d1
      have HP := Lib.hid hp
      clear hd1 hg1 hp cB
      have cX := (Blk.new wr 174 #[.string ps, .int .i64 pv]).cell
      by_cases heq : ps = s
      · subst heq
        have hlk := lookN_first st.n k ps pv hne.out HP.out
        have ht : textS st ps = (st, pv) := by unfold textS; rw [hlk]
        have HTx := Lib.hid ht
        clear ht hlk
        go_wp2_with fail
        go_ret
        rw [HTx.out]
        exact ⟨rfl, S, HW.out.kept (bal' hb _ hbz), Near.of_below S (bal' hb _ hbz), fun i hi => .inl hi⟩
      · have heb := baL heq
        have HEq := Lib.hid heq
        clear heq
        go_wp2_with fail
        go_roundw
        case rel =>
          refine ⟨k + 1, by omega, by go_num, fun q hq => ?_, bal' hb _ hbz⟩
          rw [List.take_add_one, HP.out] at hq
          simp only [List.mem_append] at hq
          rcases hq with hq | hq
          · exact hne.out q hq
          · simp at hq
            rw [hq]
            exact HEq.out
        case measure => simp [intOf]; omega
    · obtain rfl : k = nn := by omega
      have hlk := lookN_out st.n s (fun q hq => hne.out q (by rw [← HNn.out, List.take_length]; exact hq))
      obtain ⟨nx, hnx⟩ : ∃ n, st.x.length = n := ⟨_, rfl⟩
      have ht : textS st s = (⟨st.b, st.x ++ (strB s ++ [0]), st.n ++ [(s, nx)]⟩, nx) := by unfold textS; rw [hlk, hnx]
      have HTx := Lib.hid ht
      have HNx := Lib.hid hnx
      clear ht hlk hne
      obtain ⟨Ax, cx, hv, _, _⟩ := own_slice HOx.out.1
      rw [hnx] at hv hx
      subst hv
      clear hnx
      have hwr := HW.out.kept hb
      have hBr := HBk.out.kept hb
      have hbX := bal (Below.refl wr.heap.size wr) (.cells #[.string s, .int .i64 nx] 174)
      have hBX := hBr.kept hbX
      have hobX := (HOb.out.kept hb).kept hbX
      have hoxX := (HOx.out.kept hb).kept hbX
      have honX := (HOn.out.kept hb).kept hbX
      have hSbX : ∀ i, S i → i < (wr.alloc (.cells #[.string s, .int .i64 nx] 174)).heap.size := fun i hi => by have := HSb.out i hi; simp; omega
      have HM1 := Lib.hid (show st.n.length + 1 ≤ maxLen by rw [HNn.out]; unfold maxLen; omega)
      have HM2 := Lib.hid (show (st.n.length + 1) * 24 ≤ 140737488355328 by rw [HNn.out]; omega)
      have fB := hBX.frozen
      clear hwr
      go_upto_region 9 with (at_builtin; refine wpList_appO placed_elem rfl (.tmp 33) (.tmp 37) rfl honX rfl rfl (Rd.fresh _ #[.string s, .int .i64 nx] _ 1 2 _ rfl) (by simp [Value.oneCell']) HM1.out HM2.out ?_; intro v1 w1 hon1 hg1 hl1; obtain ⟨A1, c1, rfl, _, _⟩ := own_slice hon1.1; have hB1 := hBX.grown hg1 (own_blk_ne honX.1 hBX (by decide)); have f1 := hB1.frozen; have cB1 := hB1.cell)
      have hA := fst_names (st := st) (nn := st.n ++ [(s, nx)]) hBX hobX hoxX HSep.out honX hSg hSbX hg1 (by
        have e1 : (st.n ++ [(s, nx)]).length = st.n.length + 1 := by simp
        have e2 : (st.n ++ [(s, nx)]).flatMap encN = st.n.flatMap encN ++ #[Value.string s, Value.int IntKind.i64 ↑nx].toList := by simp [encN]
        rw [e1, e2]
        exact hon1)
      have hbw : RowKit.Below w.heap.size w (wr.alloc (.cells #[.string s, .int .i64 nx] 174)) := bal' hb _ hbz
      clear hBX hobX hoxX honX hSbX hg1 hon1 hl1 hB1 f1 cB1 fB cB hBr hbX HM1 HM2
      generalize w1.setCell ⟨g, 2, none⟩ (.slice A1 (st.n.length + 1) c1) = wA at *
      generalize wr.alloc (.cells #[.string s, .int .i64 nx] 174) = wx at *
      obtain ⟨SA, ⟨vb, vx, vn, hB, hob, hox, hsep, hon, hSg, hSb⟩, hnA, hsA⟩ := hA
      obtain ⟨Ax, cx, rfl, _, _⟩ := own_slice hox.1
      have hlx : (⟨st.b, st.x, st.n ++ [(s, nx)]⟩ : WS).x.length = nx := HNx.out
      have hox' : OwnS wA SA 5 1 (.slice Ax nx cx) nx (st.x.flatMap encB) := by
        have := hox
        rw [hlx] at this
        exact this
      have HM1 := Lib.hid (show nx + s.size ≤ maxLen by unfold maxLen; omega)
      have HM2 := Lib.hid (show nx + s.size ≤ 140737488355328 by omega)
      have HM3 := Lib.hid (show nx + s.size + 1 ≤ maxLen by unfold maxLen; omega)
      have HM4 := Lib.hid (show (nx + s.size + 1) * 1 ≤ 140737488355328 by omega)
      rw [hlx] at hB
      have cB := hB.cell
      have HNA := Lib.hid hnA
      have HSA := Lib.hid hsA
      have HBw := Lib.hid hbw
      clear hnA hsA hlx hbw hb hbz
      go_wp2_with (at_builtin; first
        | (refine wpList_appsO rfl (.tmp 45) (.tmp 46) rfl hox' rfl rfl HM1.out HM2.out ?_; intro v2 w2 hox2 hg2 hl2; obtain ⟨A2, c2, rfl, _, _⟩ := own_slice hox2.1; have hB2 := hB.grown hg2 (own_blk_ne hox'.1 hB (by decide)))
        | (refine wpList_appO u8_elem rfl (.tmp 47) (.tmp 48) rfl (hox2.alloc _) rfl rfl (Rd.fresh _ _ _ 1 1 _ rfl) (by simp [Value.oneCell']) HM3.out HM4.out ?_; intro v4 w4 hox4 hg4 hl4; have hox3 := hox2.alloc (.cells #[.int .u8 0] 5); have hB3 := hB2.alloc (.cells #[.int .u8 0] 5); have hB4 := hB3.grown hg4 (own_blk_ne hox3.1 hB3 (by decide)); obtain ⟨A4, c4, rfl, _, _⟩ := own_slice hox4.1; have cB4 := hB4.cell; have f4 := hB4.frozen))
      go_ret
      rw [HTx.out]
      refine ⟨rfl, ?_⟩
      have hE := fst_texts (st := ⟨st.b, st.x, st.n ++ [(s, nx)]⟩) (xx := st.x ++ (strB s ++ [0])) hB hob (by rw [show (⟨st.b, st.x, st.n ++ [(s, nx)]⟩ : WS).x.length = nx from HNx.out]; exact hox') (by have := hsep; rw [HNx.out] at this; exact this) hon hSg hSb hg2 hox3 hl2 hg4 (by
        have e1 : (st.x ++ (strB s ++ [0])).length = nx + s.size + 1 := by simp [strB_len, HNx.out]; omega
        have e2 : (st.x ++ (strB s ++ [0])).flatMap encB = st.x.flatMap encB ++ Lib.strCells s ++ [.int .u8 0] := by rw [strCells_eq]; simp [encB]
        rw [e1, e2]
        exact hox4) hl4
      obtain ⟨SE, h1, h2, h3⟩ := hE
      have h0 : Near S w wA := (Near.of_below S HBw.out).trans HNA.out
      have hz := HBw.out.size
      have hz2 := HNA.out.size
      refine ⟨SE, h1, h0.step h2 (fun i hi => ?_), fun i hi => ?_⟩
      · rcases HSA.out i hi with h | h
        · exact .inl h
        · exact .inr (by omega)
      · rcases h3 i hi with h | h
        · rcases HSA.out i h with h | h
          · exact .inl h
          · exact .inr (by omega)
        · exact .inr (by omega)
end Go.Proofs.Ytnkpaockginooaa
