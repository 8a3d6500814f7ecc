/- The document's writer (portreeveref22.flat): four, fill, text; walked. -/
import Derived.Test.YtnkpaockginooaaPutC
import Derived.Test.YtnkpaockginooaaRefW
import Derived.Test.YtnkpaockginooaaTreeE
namespace Go.Proofs.Ytnkpaockginooaa
set_option linter.unusedVariables false
set_option linter.unusedSimpArgs false
open Go.RowKit Go.Sort Go.Maps Go.WideShapes Go.ChangeShapes

def encN (p : ByteArray × Nat) : List Value := [.string p.1, .int .i64 p.2]
theorem info_placed : (Try.prog.info? 174).map (fun i => (i.zero, i.size, i.bytes)) = some (some (.agg #[.string ⟨#[]⟩, .int .i64 0]), 2, 24) := by kernel_rfl
theorem placed_elem : ElemInfo Try.prog 75 174 2 24 := by
  obtain ⟨i, hi, hz, hs, hb⟩ := info_parts info_placed
  exact ⟨Try.underlying75, ⟨i, _, hi, hz, hs, hb, rfl⟩, by decide⟩
/-- The document's writer in memory. -/
def FSt (w : World) (S : Nat → Prop) (g : Nat) (st : WS) : Prop := ∃ vb vx vn,
  Blk w g 77 #[vb, vx, vn] ∧ OwnS w S 5 1 vb st.b.length (st.b.flatMap encB) ∧ OwnS w S 5 1 vx st.x.length (st.x.flatMap encB) ∧ (∀ i, vb.ownBlock = some i → vx.ownBlock ≠ some i) ∧
  OwnS w S 174 2 vn st.n.length (st.n.flatMap encN) ∧ S g ∧ ∀ i, S i → i < w.heap.size
def FOut (S : Nat → Prop) (g : Nat) (st : WS) (w w' : World) : Prop := ∃ S', FSt w' S' g st ∧ Near S w w' ∧ ∀ i, S' i → S i ∨ w.heap.size ≤ i
theorem FSt.kept {w w' : World} {S : Nat → Prop} {g : Nat} {st : WS} (h : FSt w S g st) (hb : Below w.heap.size w w') : FSt w' S g st := by
  obtain ⟨vb, vx, vn, h1, h2, h3, h4, h5, h7, h9⟩ := h
  exact ⟨vb, vx, vn, h1.kept hb, h2.kept hb, h3.kept hb, h4, h5.kept hb, h7, fun i hi => Nat.lt_of_lt_of_le (h9 i hi) hb.size⟩
/-- .. its bytes in a block at bb or behind. -/
def FStB (w : World) (S : Nat → Prop) (g : Nat) (st : WS) (bb : Nat) : Prop := ∃ vb vx vn,
  Blk w g 77 #[vb, vx, vn] ∧ w.ownsRow bb 5 1 vb st.b.length (st.b.flatMap encB) ∧ OwnS w S 5 1 vx st.x.length (st.x.flatMap encB) ∧
  OwnS w S 174 2 vn st.n.length (st.n.flatMap encN) ∧ S g ∧ (∀ i, S i → i < bb) ∧ bb ≤ w.heap.size
theorem FStB.kept {w w' : World} {S : Nat → Prop} {g bb : Nat} {st : WS} (h : FStB w S g st bb) (hb : Below w.heap.size w w') : FStB w' S g st bb := by
  obtain ⟨vb, vx, vn, h1, h2, h3, h5, h7, h9, h10⟩ := h
  exact ⟨vb, vx, vn, h1.kept hb, own_kept h2 hb, h3.kept hb, h5.kept hb, h7, h9, Nat.le_trans h10 hb.size⟩
theorem FStB.st {w : World} {S : Nat → Prop} {g bb : Nat} {st : WS} (h : FStB w S g st bb) : FSt w (fun i => (S i ∨ bb ≤ i) ∧ i < w.heap.size) g st := by
  obtain ⟨vb, vx, vn, h1, h2, h3, h5, h7, h9, h10⟩ := h
  refine ⟨vb, vx, vn, h1, ⟨(OwnS.of (S := fun _ => True) h2 (fun _ _ => trivial)).1, fun k hk => ⟨.inr (own_lt h2 hk).1, (own_lt h2 hk).2⟩⟩, ⟨h3.1, fun k hk => ⟨.inl (h3.2 k hk), (own_lt h3.1 hk).2⟩⟩, fun i hi e => ?_, ⟨h5.1, fun k hk => ⟨.inl (h5.2 k hk), (own_lt h5.1 hk).2⟩⟩, ⟨.inl h7, h1.lt⟩, fun i hi => hi.2⟩
  have a := (own_lt h2 hi).1
  have b := h9 i (h3.2 i e)
  omega
theorem be4_one (x : Int) : be4 [x] = bytesN 4 false x := by simp [be4]
theorem be4_cons (x : Int) (l : List Int) : be4 (x :: l) = bytesN 4 false x ++ be4 l := by simp [be4]
set_option maxRecDepth 100000 in
set_option maxHeartbeats 2000000 in
theorem ffour_any (g : Nat) (st : WS) (S : Nat → Prop) (x : Int) (w : World) (hw : FSt w S g st) (hm : st.b.length ≤ 100000000) (hx0 : 0 ≤ x) (hx1 : x < 4294967296) :
    Calls Try.prog 39 #[.pointer (some ⟨g, 0, none⟩), .int .i64 x] w fun e w' => e = .returned (.tuple #[]) ∧ FStB w' S g ⟨st.b ++ bytesN 4 false x, st.x, st.n⟩ w.heap.size ∧ Near S w w' := by
  obtain ⟨vb, vx, vn, hB, hob, hox, hsep, hon, hSg, hSb⟩ := hw
  obtain ⟨A, c, rfl, _, hrd⟩ := own_slice hob.1
  obtain ⟨nb, hnb⟩ : ∃ n, st.b.length = n := ⟨_, rfl⟩
  rw [hnb] at hob hrd hm hB
  have HNb := Lib.hid hnb
  have HP := Lib.hid (refPut_any A nb c 4 st.b x false w hnb hm (by decide) hx0 (by omega) hrd)
  have cB := hB.cell
  have hgl := hB.lt
  have u1 : IntKind.u64.wrap x = x := by show x % 18446744073709551616 = _; omega
  have u2 : x % 18446744073709551616 = x := by omega
  clear hnb
  go_enter Try.func39, Try.ntmps39
  go_wp2_with (go_at_call 85; refine HP.out.mono ?_; rintro e w1 ⟨A1, c1, rfl, hown1, hb1⟩; have hB1 := hB.kept hb1; have cB1 := hB1.cell; have f1 := hB1.frozen)
  go_end0
  have hB2 := hB1.set_ 0 (.slice A1 (nb + 4) c1)
  have e1 : (st.b ++ bytesN 4 false x).length = nb + 4 := by rw [List.length_append, bytesN_len, HNb.out]
  refine ⟨rfl, ⟨.slice A1 (nb + 4) c1, vx, vn, hB2, ?_, (hox.kept hb1).set ⟨g, 0, none⟩ (own_blk_ne (hox.kept hb1).1 hB1 (by decide)) _, (hon.kept hb1).set ⟨g, 0, none⟩ (own_blk_ne (hon.kept hb1).1 hB1 (by decide)) _, hSg, hSb, by simpa using hb1.size⟩, (Near.of_below S hb1).setCell (p := ⟨g, 0, none⟩) hSg _⟩
  show World.ownsRow _ _ _ 1 _ (st.b ++ bytesN 4 false x).length ((st.b ++ bytesN 4 false x).flatMap encB)
  rw [e1]
  exact own_same hown1 fun k hk => Below.heap_setCell _ _ _ _ (by have := (own_lt hown1 hk).1; simp; omega)
def lenC : Option Value → Nat
  | some (.slice _ n _) => n
  | _ => 0
set_option maxRecDepth 100000 in
set_option maxHeartbeats 2000000 in
theorem ffill_any (g bb : Nat) (st : WS) (S : Nat → Prop) (w : World) (hw : FStB w S g st bb) (hm : st.b.length ≤ 90000000) :
    Calls Try.prog 83 #[.pointer (some ⟨g, 0, none⟩)] w fun e w' => e = .returned (.tuple #[]) ∧ FStB w' S g ⟨fillN st.b, st.x, st.n⟩ bb ∧ Near (fun i => i = g ∨ bb ≤ i) w w' := by
  obtain ⟨kk, hkk⟩ : ∃ kk, (4 - st.b.length % 4) % 4 = kk := ⟨_, rfl⟩
  obtain ⟨nb, hnb⟩ : ∃ n, st.b.length = n := ⟨_, rfl⟩
  rw [hnb] at hkk hm
  have HNb := Lib.hid hnb
  have hkk1 : (nb + kk) % 4 = 0 := by omega
  have hkk2 : kk ≤ 3 := by omega
  have hkk3 : ∀ j, j < kk → (nb + j) % 4 ≠ 0 := fun j hj => by omega
  have HKK := Lib.hid hkk
  have HW := Lib.hid hw
  have HK3 := Lib.hid hkk3
  have HK1 := Lib.hid hkk1
  clear hkk hnb hw hkk3 hkk1
  go_enter Try.func83, Try.ntmps83
  go_wp2_with fail
  go_loopw [] (fun wr => ∃ j : Nat, j ≤ kk ∧ FStB wr S g ⟨st.b ++ List.replicate j 0, st.x, st.n⟩ bb ∧ Near (fun i => i = g ∨ bb ≤ i) w wr) (fun wr => nb + kk - lenC (wr.cell? ⟨g, 0, none⟩))
  case atStart => exact ⟨0, by omega, by simpa using HW.out, Near.refl _ _⟩
  case round =>
    obtain ⟨j, hj, hw, hn⟩ := hrel
    have HWj := Lib.hid hw
    obtain ⟨vb, vx, vn, hB, hob, hox, hon, hSg, hSb, hbb⟩ := hw
    have hlen : (st.b ++ List.replicate j (0 : Int)).length = nb + j := by simp [HNb.out]
    have hob2 : wr.ownsRow bb 5 1 vb (nb + j) ((st.b ++ List.replicate j (0 : Int)).flatMap encB) := by rw [← hlen]; exact hob
    clear hlen hob
    obtain ⟨A, c, rfl, _, _⟩ := own_slice hob2
    have cB := hB.cell
    have fB := hB.frozen
    have hgl := hB.lt
    have hbX := bal (Below.refl wr.heap.size wr) (.cells #[.int .u8 0] 5)
    have hownX := own_kept hob2 hbX
    have hBX := hB.kept hbX
    have hoxX := hox.kept hbX
    have honX := hon.kept hbX
    have HM3 := Lib.hid (show nb + j + 1 ≤ maxLen by unfold maxLen; omega)
    have HM4 := Lib.hid (show (nb + j + 1) * 1 ≤ 140737488355328 by omega)
    by_cases hlt : j < kk
    · have e1 : (((nb : Int) + (j : Int)) % 4 != 0) = true := by
        have := HK3.out j hlt
        simp
        omega
      go_wp2_with (at_builtin; refine wpList_app u8_elem rfl (.tmp 13) (.tmp 14) rfl bb hownX rfl rfl (Rd.fresh _ _ _ 1 1 _ rfl) (by simp [Value.oneCell']) HM3.out HM4.out (by simp; omega) ?_; intro v1 w1 hown1 hb1 hg1; obtain ⟨A1, c1, rfl, _, _⟩ := own_slice hown1; have hne := own_blk_ne hownX hBX (by decide); have hB1 := hBX.grown hg1 hne; have cB1 := hB1.cell; have f1 := hB1.frozen)
      have hB2 := hB1.set_ 0 (.slice A1 (nb + j + 1) c1)
      have hF : FStB (w1.setCell ⟨g, 0, none⟩ (.slice A1 (nb + j + 1) c1)) S g ⟨st.b ++ List.replicate (j + 1) 0, st.x, st.n⟩ bb := by
        have elen : (st.b ++ List.replicate (j + 1) (0 : Int)).length = nb + j + 1 := by simp [HNb.out]; omega
        have eb : (st.b ++ List.replicate (j + 1) (0 : Int)).flatMap encB = (st.b ++ List.replicate j (0 : Int)).flatMap encB ++ [.int .u8 0] := by
          rw [List.replicate_succ', ← List.append_assoc, List.flatMap_append]
          rfl
        have hnw : ∀ k, (Value.slice A (nb + j) c).ownBlock = some k → bb ≤ k := fun k hk => (own_lt hownX hk).1
        refine ⟨.slice A1 (nb + j + 1) c1, vx, vn, hB2, ?_, (hoxX.keptBut hg1 fun i hi e => ?_).set ⟨g, 0, none⟩ ?_ _, (honX.keptBut hg1 fun i hi e => ?_).set ⟨g, 0, none⟩ ?_ _, hSg, hSb, ?_⟩
        · show World.ownsRow _ _ _ 1 _ (st.b ++ List.replicate (j + 1) (0 : Int)).length ((st.b ++ List.replicate (j + 1) (0 : Int)).flatMap encB)
          rw [elen, eb]
          refine own_same hown1 fun k hk => Below.heap_setCell _ _ _ _ (fun e => ?_)
          exact own_blk_ne hown1 hB1 (by decide) (by rw [hk]; simp at e; rw [e])
        · have a := hnw i e
          have b := hSb i (hox.2 i hi)
          omega
        · exact own_blk_ne (hoxX.keptBut hg1 fun i hi e => (by have a := hnw i e; have b := hSb i (hox.2 i hi); omega)).1 hB1 (by decide)
        · have a := hnw i e
          have b := hSb i (hon.2 i hi)
          omega
        · exact own_blk_ne (honX.keptBut hg1 fun i hi e => (by have a := hnw i e; have b := hSb i (hon.2 i hi); omega)).1 hB1 (by decide)
        · have := hg1.size
          simp at this ⊢
          omega
      have hN : Near (fun i => i = g ∨ bb ≤ i) w (w1.setCell ⟨g, 0, none⟩ (.slice A1 (nb + j + 1) c1)) := ((hn.alloc _).grown hg1 (fun k hk => .inr (own_lt hownX hk).1)).setCell (p := ⟨g, 0, none⟩) (.inl rfl) _
      have HF := Lib.hid hF
      have HN := Lib.hid hN
      have cR : (w1.setCell ⟨g, 0, none⟩ (.slice A1 (nb + j + 1) c1)).cell? ⟨g, 0, none⟩ = some (.slice A1 (nb + j + 1) c1) := hB2.cell 0
      have cW : wr.cell? ⟨g, 0, none⟩ = some (.slice A (nb + j) c) := hB.cell 0
      go_roundw
      case rel => exact ⟨j + 1, by omega, HF.out, HN.out⟩
      case measure => rw [cR, cW]; simp only [lenC]; omega
    · obtain rfl : j = kk := by omega
      have e1 : (((nb : Int) + (j : Int)) % 4 != 0) = false := by
        have := HK1.out
        simp
        omega
      go_wp2_with fail
      go_end0
      have ef : fillN st.b = st.b ++ List.replicate j 0 := by unfold fillN; rw [HNb.out, HKK.out]
      rw [ef]
      exact ⟨rfl, HWj.out, hn⟩
end Go.Proofs.Ytnkpaockginooaa
