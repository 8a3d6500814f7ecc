/- Device trees: bytes that grow (four, fill); whether a tree is few; walked. -/
import Derived.Test.YtnkpaockginooaaTreeE
import Derived.Test.YtnkpaockginooaaAppL
import Derived.Test.YtnkpaockginooaaNum
import Derived.Carry
namespace Go.Proofs.Ytnkpaockginooaa
set_option linter.unusedVariables false
set_option linter.unusedSimpArgs false
open Go.RowKit Go.Sort

theorem step_appz {P : Program} {w : World} {ops : Array Oper} {o : Oper} {a : Act} {K : Act → World → Prop} {Q : Exit → Act → World → Prop} {F : Prop} {t tn : TypeId} (hgd : o.guard = none) (s x : Operand)
    (ho : o.op = .call { callee := .builtin .append, args := #[s, x], argTypes := #[t, tn] }) (vs vx : Value) (hs : a.eval s = vs) (hx : a.eval x = vx)
    (v' : Value) (w' : World) (hr : (Builtin.append_ #[t, tn] o.type #[vs, vx]).run P w = .ok v' w') (h : K (a.put o.dst v') w') :
    if Region.wanted o (yielded ops a.tmps) = true then Oper.wp P o a w K Q else F := by
  have hw : Region.wanted o (yielded ops a.tmps) = true := by simp [Region.wanted, hgd]
  rw [if_pos hw]
  exact Lib.wp_append_run w s x t tn ho vs vx hs hx v' w' hr h
theorem few_any (k : Nat) (t : Tr) (cs : List Value) (w : World) (h : TrOk w w.heap.size k t cs) :
    Calls Try.prog 14 #[.agg cs.toArray] w fun e w' => (∃ b : Bool, e = .returned (.bool b)) ∧ Below w.heap.size w w' := by
  obtain ⟨x1, xA, xl, xc, xB, xm, xd, hx⟩ := tr_form h
  have HC := Lib.hid (fun W (hW : Below w.heap.size w W) => size_any k t cs 0 0 W ((h.below hW).more hW.size))
  subst hx
  have HB := Lib.hid (bal (Below.refl w.heap.size w) (.cells #[.string x1, .slice xA xl xc, .slice xB xm xd] 25))
  clear h
  go_enter Try.func14, Try.ntmps14
  go_wp2_with (go_at_call 34; refine (HC.out _ HB.out).mono ?_; rintro e w5 ⟨⟨r, rfl⟩, hb5⟩)
  go_ret
  exact ⟨⟨_, rfl⟩, HB.out.trans (hb5.mono HB.out.size)⟩
/-- Numbers behind bytes. -/
theorem four_any (g o : Nat) (ty : TypeId) (cs : Array Value) (A A2 : Option Addr) (n c n2 c2 : Nat) (bs l : List Int) (w : World) (hB : Blk w g ty cs) (ho : cs[o]? = some (.slice A n c)) (hl : bs.length = n) (hl2 : l.length = n2) (hm : n ≤ 100000000) (hm2 : n2 ≤ 100000000) (hx : ∀ x ∈ l, 0 ≤ x ∧ x < 4294967296)
    (hr : Rd w w.heap.size 1 A n (bs.flatMap encB)) (hr2 : Rd w w.heap.size 1 A2 n2 (l.flatMap encU32)) :
    Calls Try.prog 36 #[.pointer (some ⟨g, o, none⟩), .slice A2 n2 c2] w fun e w' => e = .returned (.tuple #[]) ∧ ∃ A' c', Blk w' g ty (cs.setIfInBounds o (.slice A' (n + 4 * n2) c')) ∧
      w'.ownsRow w.heap.size 5 1 (.slice A' (n + 4 * n2) c') (n + 4 * n2) ((bs ++ l.flatMap (bytesN 4 false)).flatMap encB) ∧ Near (fun i => i = g) w w' := by
  have HP := Lib.hid (putBe32_any A A2 n c n2 c2 bs l w hl hl2 hm hm2 hx hr hr2)
  have hc := hB.cell o
  rw [ho] at hc
  have hgl := hB.lt
  clear hl hl2 hx hr hr2
  go_enter Try.func36, Try.ntmps36
  go_wp2_with (go_at_call 82; refine HP.out.mono ?_; rintro e w1 ⟨A', c', rfl, hown, hb1⟩; have hB1 := hB.kept hb1; have hc1 := hB1.cell o; have hf1 := hB1.frozen o; rw [ho] at hc1)
  go_end0
  refine ⟨rfl, A', c', hB1.set_ o _, ?_, (Near.of_below (fun i => i = g) hb1).setCell (p := ⟨g, o, none⟩) rfl _⟩
  exact own_same hown fun k hk => Below.heap_setCell _ _ _ _ (by have := (own_lt hown hk).1; simp; omega)
/-- Filled up to a multiple of four. -/
def fillN (l : List Int) : List Int := l ++ List.replicate ((4 - l.length % 4) % 4) 0
theorem fillN_len (l : List Int) : (fillN l).length = l.length + (4 - l.length % 4) % 4 := by simp [fillN]
set_option maxRecDepth 100000 in
set_option maxHeartbeats 2000000 in
theorem fill_any (g o : Nat) (ty : TypeId) (cs : Array Value) (v : Value) (base n : Nat) (A2 : Option Addr) (m c2 : Nat) (bs l : List Int) (w : World) (hB : Blk w g ty cs) (ho : cs[o]? = some v) (hty : 5 ≠ ty) (hl : bs.length = n) (hl2 : l.length = m) (hm : n + m ≤ 90000000) (hbase : base ≤ w.heap.size)
    (hown : w.ownsRow base 5 1 v n (bs.flatMap encB)) (hr2 : Rd w w.heap.size 1 A2 m (l.flatMap encB)) :
    Calls Try.prog 80 #[.pointer (some ⟨g, o, none⟩), .slice A2 m c2] w fun e w' => e = .returned (.tuple #[]) ∧ ∃ v', Blk w' g ty (cs.setIfInBounds o v') ∧
      w'.ownsRow base 5 1 v' (fillN (bs ++ l)).length ((fillN (bs ++ l)).flatMap encB) ∧ Near (fun i => i = g ∨ base ≤ i) w w' := by
  obtain ⟨A, c, rfl, hnc, _⟩ := own_slice hown
  have hc := hB.cell o
  rw [ho] at hc
  have hgl := hB.lt
  have hf0 := hB.frozen o
  have HR2 := Lib.hid hr2
  have HM := Lib.hid (show n + m ≤ maxLen by unfold maxLen; omega)
  have HM2 := Lib.hid (show (n + m) * 1 ≤ 140737488355328 by omega)
  have HBl := Lib.hid hB
  have HO := Lib.hid ho
  have hlen : (bs ++ l).length = n + m := by simp [hl, hl2]
  have HLn := Lib.hid hlen
  clear hr2 ho hB hlen
  go_enter Try.func80, Try.ntmps80
  go_upto_region 1 with (at_builtin; refine wpList_app u8_elem rfl (.tmp 8) (.tmp 9) rfl base hown rfl rfl HR2.out (one_b l) HM.out HM2.out hbase ?_; intro v1 w1 hown1 hb1 hg1; obtain ⟨A1, c1, rfl, hnc1, _⟩ := own_slice hown1; have hne := own_blk_ne hown HBl.out hty; have hB1 := HBl.out.grown hg1 hne; have hc1 := hB1.cell o; rw [HO.out] at hc1; have hf1 := hB1.frozen o)
  have hB2 := hB1.set_ o (.slice A1 (n + m) c1)
  have hown2 : (w1.setCell ⟨g, o, none⟩ (.slice A1 (n + m) c1)).ownsRow base 5 1 (.slice A1 (n + m) c1) (n + m) ((bs ++ l).flatMap encB) := by
    rw [List.flatMap_append]
    exact own_same hown1 fun k hk => Below.heap_setCell _ _ _ _ (by
      have := own_blk_ne hown1 hB1 hty
      intro e
      apply this
      rw [hk]
      simp at e
      rw [e])
  have hz2 : base ≤ (w1.setCell ⟨g, o, none⟩ (.slice A1 (n + m) c1)).heap.size := Nat.le_trans hbase (by simpa using hb1.size)
  have hnr : Near (fun i => i = g ∨ base ≤ i) w (w1.setCell ⟨g, o, none⟩ (.slice A1 (n + m) c1)) := (Near.grown (Near.refl _ _) hg1 (fun k hk => .inr (own_lt hown hk).1)).setCell (p := ⟨g, o, none⟩) (.inl rfl) _
  generalize w1.setCell ⟨g, o, none⟩ (.slice A1 (n + m) c1) = w2 at *
  clear hown1 hb1 hg1 hne hB1 hc1 hf1 hc hf0 hown
  obtain ⟨kk, hkk⟩ : ∃ kk, (4 - (n + m) % 4) % 4 = kk := ⟨_, rfl⟩
  have hk1 : ((4 : Int) - Int.tmod ((n : Int) + (m : Int)) 4).tmod 4 = (kk : Int) := by
    have e1 : ((n : Int) + (m : Int)).tmod 4 = ((n : Int) + (m : Int)) % 4 := Int.tmod_eq_emod_of_nonneg (by omega)
    rw [← hkk, e1, Int.tmod_eq_emod_of_nonneg (by omega)]
    omega
  have hk3 : IntKind.i64.wrap ((4 : Int) - Int.tmod ((n : Int) + (m : Int)) 4) = (4 : Int) - Int.tmod ((n : Int) + (m : Int)) 4 := IntWalk.i64_in _ (by
    have e1 : ((n : Int) + (m : Int)).tmod 4 = ((n : Int) + (m : Int)) % 4 := Int.tmod_eq_emod_of_nonneg (by omega)
    rw [e1]
    omega)
  have hk2 : ((4 : Int) - ((n : Int) + (m : Int)) % 4) % 4 = (kk : Int) := by rw [← hkk]; omega
  have hkb : kk ≤ 3 := by omega
  have HZ := Lib.hid (fun W (hW : Below w2.heap.size w2 W) => run_app_zeros W base 28 (.slice A1 (n + m) c1) (n + m) kk (bs ++ l) HLn.out (own_kept hown2 hW) (by omega) (Nat.le_trans hz2 hW.size))
  have hco : (cs.setIfInBounds o (.slice A1 (n + m) c1))[o]? = some (.slice A1 (n + m) c1) := by
    have := (Array.getElem?_eq_some_iff.1 HO.out).1
    simp [this]
  have hc2 := (hB2.drew.cell o).trans hco
  obtain ⟨v3, w3, hr3, hown3, hb3, hg3⟩ := HZ.out w2.drew (Below.refl _ _).drew
  obtain ⟨A3, c3, rfl, _, _⟩ := own_slice hown3
  have hne3 := own_blk_ne (own_kept hown2 (Below.refl _ _).drew) hB2.drew hty
  have hB3 := hB2.drew.grown hg3 hne3
  have hf3 := hB3.frozen o
  have hc3 := (hB3.cell o).trans hco
  have HR3 := Lib.hid hr3
  have hB4 := hB3.set_ o (.slice A3 (n + m + kk) c3)
  have HFin : Hid (∃ v', Blk (w3.setCell ⟨g, o, none⟩ (.slice A3 (n + m + kk) c3)) g ty (cs.setIfInBounds o v') ∧ (w3.setCell ⟨g, o, none⟩ (.slice A3 (n + m + kk) c3)).ownsRow base 5 1 v' (fillN (bs ++ l)).length ((fillN (bs ++ l)).flatMap encB) ∧ Near (fun i => i = g ∨ base ≤ i) w (w3.setCell ⟨g, o, none⟩ (.slice A3 (n + m + kk) c3))) := by
    refine ⟨.slice A3 (n + m + kk) c3, ?_, ?_, ?_⟩
    · have e : (cs.setIfInBounds o (.slice A1 (n + m) c1)).setIfInBounds o (.slice A3 (n + m + kk) c3) = cs.setIfInBounds o (.slice A3 (n + m + kk) c3) := by simp
      rw [e] at hB4
      exact hB4
    · have e : (fillN (bs ++ l)).length = n + m + kk := by rw [fillN_len, HLn.out, hkk]
      rw [e]
      have e2 : fillN (bs ++ l) = (bs ++ l) ++ List.replicate kk 0 := by unfold fillN; rw [HLn.out, hkk]
      rw [e2]
      exact own_same hown3 fun k hk => Below.heap_setCell _ _ _ _ (by
        have := own_blk_ne hown3 hB3 hty
        intro e
        apply this
        rw [hk]
        simp at e
        rw [e])
    · exact ((hnr.drew).step (Near.grown (Near.refl (fun i => base ≤ i) _) hg3 (fun k hk => (own_lt (own_kept hown2 (Below.refl _ _).drew) hk).1)) (fun i hi => .inl (.inr hi))).setCell (p := ⟨g, o, none⟩) (.inl rfl) _
  clear hr3 hB4 hg3 hne3 hown3 hb3 HZ hown2 hnr hkk hB2 hB3
  go_region_law ((refine step_appz rfl (.tmp 17) (.tmp 25) rfl _ _ rfl rfl _ _ HR3.out ?_))
  all_goals go_wp2
  all_goals (go_end0; exact ⟨rfl, HFin.out⟩)
end Go.Proofs.Ytnkpaockginooaa
namespace Go.Proofs.Ytnkpaockginooaa
set_option linter.unusedVariables false
set_option linter.unusedSimpArgs false
open Go.RowKit Go.Sort

def e0 : ByteArray := ⟨#[]⟩
set_option maxHeartbeats 1000000 in
theorem twice_nil (w : World) : Calls Try.prog 87 #[.slice none 0 0] w fun e w' => e = .returned (.bool false) ∧ Below w.heap.size w w' := by
  have hmm := @run_makeMap Try.prog
  go_enter Try.func87, Try.ntmps87
  go_wp2
  refine wp_name ?_
  intro w1 hw1
  have hb1 : RowKit.Below w.heap.size w w1 := by rw [hw1]; exact bal (Below.refl _ _) _
  clear hw1
  go_loopw [9] (fun i wr => i = .int .i64 0 ∧ Below w.heap.size w wr) (fun i _ => 0)
  case atStart => exact ⟨rfl, hb1⟩
  case round =>
    obtain ⟨rfl, hb⟩ := hrel
    go_wp2
    go_ret
    exact ⟨rfl, hb⟩
set_option maxRecDepth 100000 in
set_option maxHeartbeats 2000000 in
theorem may_zero (gc : Nat) (w : World) (hB : Blk w gc 82 #[.int .i64 0, .int .i64 0]) :
    Calls Try.prog 40 #[.pointer (some ⟨gc, 0, none⟩), .agg #[.string ⟨#[]⟩, .slice none 0 0, .slice none 0 0], .int .i64 1] w fun e w' => e = .returned (.bool true) ∧ Near (fun i => i = gc) w w' := by
  have HB := Lib.hid hB
  have hlt := hB.lt
  have cB := (hB.alloc (.cells #[.string ⟨#[]⟩, .slice none 0 0, .slice none 0 0] 25)).cell
  have fB := (hB.alloc (.cells #[.string ⟨#[]⟩, .slice none 0 0, .slice none 0 0] 25)).frozen
  clear hB
  go_enter Try.func40, Try.ntmps40
  go_upto_region 2 with (fail)
  refine wp_name ?_
  intro w1 hw1
  have hB1 : Blk w1 gc 82 #[.int .i64 1, .int .i64 0] := by rw [hw1]; exact (HB.out.set_ 0 (.int .i64 1)).alloc _
  have hT1 : Blk w1 w.heap.size 25 #[.string ⟨#[]⟩, .slice none 0 0, .slice none 0 0] := by rw [hw1]; exact Blk.fresh _ _ _
  have hn1 : Near (fun i => i = gc) w w1 := by rw [hw1]; exact (Near.setCell (Near.refl (fun i => i = gc) w) (p := ⟨gc, 0, none⟩) rfl (.int .i64 1)).alloc _
  clear hw1
  clear cB fB
  have cB := hB1.cell
  have fB := hB1.frozen
  have cT := hT1.cell
  go_region
  have hB2 := (hB1.set_ 1 (.int .i64 0)).drew
  have hT2 := (hT1.far (p := ⟨gc, 1, none⟩) (by simp; omega) (.int .i64 0)).drew
  have hn2 := (hn1.setCell (p := ⟨gc, 1, none⟩) rfl (.int .i64 0)).drew
  generalize (w1.setCell ⟨gc, 1, none⟩ (.int .i64 0)).drew = w2 at *
  clear cB fB cT hB1 hT1 hn1
  have cB := hB2.cell
  have cT := hT2.cell
  go_wp2_with fail
  go_loopw [7, 66] (fun v i wr => v = .slice none 0 0 ∧ i = .int .i64 0 ∧ Below w2.heap.size w2 wr) (fun _ i _ => 0)
  case atStart => exact ⟨rfl, rfl, Below.refl _ _⟩
  case round =>
    obtain ⟨rfl, rfl, hb⟩ := hrel
    have cT := (hT2.kept hb).cell
    go_wp2_with (go_at_call 87; refine (twice_nil _).mono ?_; rintro e w3 ⟨rfl, hb3⟩; have hb4 := hb.trans (hb3.mono hb.size); have cT := (hT2.kept hb4).cell)
    go_loopw [8, 97] (fun v i wr => v = .slice none 0 0 ∧ i = .int .i64 0 ∧ Below w2.heap.size w2 wr) (fun _ i _ => 0)
    case atStart => exact ⟨rfl, rfl, hb4⟩
    case round =>
      clear hb hb4 hb3
      obtain ⟨rfl, rfl, hb⟩ := hrel
      go_wp2_with (go_at_call 87; refine (twice_nil _).mono ?_; rintro e w5 ⟨rfl, hb5⟩)
      go_ret
      exact ⟨rfl, hn2.trans (Near.of_below _ (hb.trans (hb5.mono hb.size)))⟩
theorem check_zero (w : World) : Calls Try.prog 17 #[.agg #[.string ⟨#[]⟩, .slice none 0 0, .slice none 0 0]] w fun e w' => e = .returned (.bool true) ∧ Below w.heap.size w w' := by
  have hB := Blk.new (w.alloc (.cells #[.string ⟨#[]⟩, .slice none 0 0, .slice none 0 0] 25)) 82 #[.int .i64 0, .int .i64 0]
  rw [World.size_alloc] at hB
  have HM := Lib.hid (may_zero _ _ hB)
  have HB := Lib.hid (bal (bal (Below.refl w.heap.size w) (.cells #[.string ⟨#[]⟩, .slice none 0 0, .slice none 0 0] 25)) (.cells #[.int .i64 0, .int .i64 0] 82))
  clear hB
  go_enter Try.func17, Try.ntmps17
  go_wp2_with (go_at_call 40; refine HM.out.mono ?_; rintro e w3 ⟨rfl, hn3⟩)
  go_ret
  exact ⟨rfl, HB.out.trans (hn3.below (fun i hi => by omega) (by simp; omega))⟩
end Go.Proofs.Ytnkpaockginooaa
