/- Chapter 3, the law ShaClones: a clone goes on by itself; a hash that nobody made has nothing. -/
import Derived.Test.YtjcklmhkdpbbdaaDoorShaQ
namespace Go.Proofs.YtjcklmhkdpbbdaaDoor
set_option linter.unusedVariables false
set_option linter.unusedSimpArgs false
open Go.RowKit Go.Sort Go.ChangeShapes

theorem PtOk.kept {w W : World} {B : Nat} {p : Pt} (h : PtOk w B p) (hb : Below B w W) (hB : B ≤ W.heap.size) : PtOk W W.heap.size p := ⟨h.1, h.rd hb hB⟩
theorem PtOk.apart {w W : World} {B g : Nat} {p : Pt} (h : PtOk w B p) (hg : B ≤ g) : 0 < p.n → ∀ ad, p.A = some ad → ad.block ≠ g := fun hp0 ad had => by
  obtain ⟨b', o', e, hlt3, _⟩ := h.2.2 hp0
  rw [e] at had
  obtain rfl := Option.some.inj had
  show b' ≠ g
  omega
theorem node_lit : ((List.replicate 32 (0 : Int)).flatMap encB).toArray = #[Value.int .u8 0, Value.int .u8 0, Value.int .u8 0, Value.int .u8 0, Value.int .u8 0, Value.int .u8 0, Value.int .u8 0, Value.int .u8 0, Value.int .u8 0, Value.int .u8 0, Value.int .u8 0, Value.int .u8 0, Value.int .u8 0, Value.int .u8 0, Value.int .u8 0, Value.int .u8 0, Value.int .u8 0, Value.int .u8 0, Value.int .u8 0, Value.int .u8 0, Value.int .u8 0, Value.int .u8 0, Value.int .u8 0, Value.int .u8 0, Value.int .u8 0, Value.int .u8 0, Value.int .u8 0, Value.int .u8 0, Value.int .u8 0, Value.int .u8 0, Value.int .u8 0, Value.int .u8 0] := by kernel_rfl
def zh0 : Array Value := Array.replicate 8 (.int .u32 0) ++ Array.replicate 64 (.int .u8 0) ++ #[.int .u64 0, .int .i64 0]
theorem build_h0 (w : World) : (Instr.build 49 #[]).run Tryd.prog w = .ok (.agg zh0) w := run_build w _ _ _ (by kernel_rfl)
set_option maxRecDepth 100000 in
set_option maxHeartbeats 4000000 in
theorem shaClones_any (p q r : Pt) (w : World) (hp : PtOk w w.heap.size p) (hq : PtOk w w.heap.size q) (hr : PtOk w w.heap.size r) (gp : PtGood p) (gq : PtGood q) (gr : PtGood r)
    (bp : p.n ≤ 9223372036854775807) (bq : q.n ≤ 9223372036854775807) (br : r.n ≤ 9223372036854775807) (hT : Tabs w) :
    Calls Tryd.prog 7 #[.slice p.A p.n p.c, .slice q.A q.n q.c, .slice r.A r.n r.c] w fun e w' => e = .returned (.bool true) ∧ Below w.heap.size w w' := by
  have HA := Lib.hid (awake03_any w hT)
  have HS := Lib.hid (fun W (h : Below w.heap.size w W) => short_any (some ⟨W.heap.size, 0, none⟩) 3 3 [p, q, r] (W.alloc (.cells #[.slice p.A p.n p.c, .slice q.A q.n q.c, .slice r.A r.n r.c] 29)) rfl (by decide) (Rd.fresh _ _ _ 3 1 _ rfl)
    (fun x hx => by simp only [List.mem_cons, List.not_mem_nil, or_false] at hx; rcases hx with rfl | rfl | rfl <;> assumption))
  have HT := Lib.hid hT
  have HPp := Lib.hid hp
  have HPq := Lib.hid hq
  have HPr := Lib.hid hr
  cases hs : shortB [p, q, r] with
  | false =>
    rw [hs] at HS
    clear hp hq hr gp gq gr bp bq br hT hs
    go_enter Tryd.func7, Tryd.ntmps7
    go_upto_region 3 with (go_at_call 14; refine HA.out.mono ?_; rintro e w1 ⟨rfl, hb1⟩)
    go_wp2_with (go_at_call 15; refine (HS.out _ hb1).mono ?_; rintro e w2 ⟨rfl, rfl⟩)
    go_ret
    exact ⟨rfl, bal' hb1 _ hb1.size⟩
  | true =>
    rw [hs] at HS
    have h3 : p.n ≤ 300 ∧ q.n ≤ 300 ∧ r.n ≤ 300 := by
      unfold shortB at hs
      simpa using hs
    obtain ⟨hp3, hq3, hr3⟩ := h3
    have Lp := Lib.hid hp.1
    have Lq := Lib.hid hq.1
    have Lr := Lib.hid hr.1
    clear hp hq hr bp bq br hT hs
    go_enter Tryd.func7, Tryd.ntmps7
    go_upto_region 6 with (first
      | (go_at_call 14; refine HA.out.mono ?_; rintro e w1 ⟨rfl, hb1⟩)
      | (go_at_call 15; refine (HS.out _ hb1).mono ?_; rintro e w2 ⟨rfl, rfl⟩; have hb2 := bal' hb1 (.cells #[.slice p.A p.n p.c, .slice q.A q.n q.c, .slice r.A r.n r.c] 29) hb1.size)
      | (go_at_call 23; refine (hnew_any _ (HT.out.kept hb2)).mono ?_; rintro e w3 ⟨rfl, hH3, hb3⟩))
    have hb03 := hb2.trans (hb3.mono hb2.size)
    have hg2 := hb2.size
    rw [World.size_alloc] at hH3 hg2
    have HG := Lib.hid hg2
    clear hb3 hb2 hb1 HA HS hg2
    generalize w1.heap.size + 1 = g at *
    have HW := Lib.hid (hwrite_yes g [] p.bs p.A p.n p.c w3 hH3 (by simp; omega) (HT.out.kept hb03) HPp.out.1 gp.ok (HPp.out.rd hb03 hb03.size) (HPp.out.apart (W := w3) HG.out) gp.le)
    rw [List.nil_append] at HW
    have HB3 := Lib.hid hb03
    clear hb03 hH3
    go_upto_region 7 with (go_at_call 24; refine HW.out.mono ?_; rintro e w4 ⟨rfl, hH4, hn4⟩)
    have HB4 : Hid (RowKit.Below w.heap.size w w4) := Lib.hid ((Near.of_below (fun i => i = g) HB3.out).trans hn4 |>.below (fun i hi => by have := HG.out; omega) (Nat.le_refl _))
    have HC := Lib.hid (hclone_yes g p.bs w4 hH4)
    have HH4 := Lib.hid hH4
    have HGl := Lib.hid hH4.lt
    clear hn4 hH4 HB3 HW
    go_upto_region 8 with (go_at_call 27; refine HC.out.mono ?_; rintro e w5 ⟨rfl, hK5, hb5⟩)
    have HH5 := Lib.hid (HH4.out.kept hb5)
    have HB5 := Lib.hid (HB4.out.trans (hb5.mono HB4.out.size))
    have HK5 := Lib.hid hK5
    have HG2 := Lib.hid HB4.out.size
    clear HC hK5 hb5 HH4 HB4
    generalize w4.heap.size = k at *
    have HW := Lib.hid (hwrite_yes g p.bs q.bs q.A q.n q.c w5 HH5.out (by rw [Lp.out]; omega) (HT.out.kept HB5.out) HPq.out.1 gq.ok (HPq.out.rd HB5.out HB5.out.size) (HPq.out.apart (W := w5) HG.out) gq.le)
    go_upto_region 11 with (go_at_call 24; refine HW.out.mono ?_; rintro e w6 ⟨rfl, hH6, hn6⟩)
    have HB6 : Hid (RowKit.Below w.heap.size w w6) := Lib.hid ((Near.of_below (fun i => i = g) HB5.out).trans hn6 |>.below (fun i hi => by have := HG.out; omega) (Nat.le_refl _))
    have HK6 := Lib.hid (HK5.out.apart hn6 (by have := HGl.out; omega))
    have HH6 := Lib.hid hH6
    clear HW hn6 hH6 HH5 HK5 HB5
    have HW := Lib.hid (hwrite_yes k p.bs r.bs r.A r.n r.c w6 HK6.out (by rw [Lp.out]; omega) (HT.out.kept HB6.out) HPr.out.1 gr.ok (HPr.out.rd HB6.out HB6.out.size) (HPr.out.apart (W := w6) HG2.out) gr.le)
    go_upto_region 13 with (go_at_call 24; refine HW.out.mono ?_; rintro e w7 ⟨rfl, hK7, hn7⟩)
    have HB7 : Hid (RowKit.Below w.heap.size w w7) := Lib.hid ((Near.of_below (fun i => i = k) HB6.out).trans hn7 |>.below (fun i hi => by have := HG2.out; omega) (Nat.le_refl _))
    have HH7 := Lib.hid (HH6.out.apart hn7 (by have := HGl.out; omega))
    have HK7 := Lib.hid hK7
    clear HW hn7 hK7 HH6 HK6 HB6
    have HBz := Lib.hid build_h0
    have hzz : zh0[73]? = some (.int .i64 0) := by kernel_rfl
    have hzs : zh0.size = 74 := by kernel_rfl
    generalize zh0 = Z at *
    have c73z := ((Blk.new w7 49 Z).cell 73).trans hzz
    clear hzz
    refine wp_region_lit ?_
    refine wpList_built rfl 49 #[] rfl (vals := #[]) (by simp) (HBz.out _) ?_
    go_upto_region 14 with (fail)
    refine wp_name ?_
    intro w8 hw8
    rw [← hw8] at c73z
    have hb78 : RowKit.Below w7.heap.size w7 w8 := by rw [hw8]; exact bal (Below.refl _ _) _
    have HB8 := Lib.hid (HB7.out.trans (hb78.mono HB7.out.size))
    have HH8 := Lib.hid (HH7.out.kept hb78)
    have HK8 := Lib.hid (HK7.out.kept hb78)
    have hz8 : w7.heap.size < w8.heap.size := by rw [hw8]; simp
    clear hw8 hb78 HB7 HH7 HK7
    generalize w7.heap.size = gz at *
    go_upto_region 16 with (first
      | (go_at_call 24; (with_reducible refine (hwrite_nil _ _).mono ?_); rintro e w9 ⟨rfl, rfl⟩)
      | (go_at_call 24; (with_reducible refine (hwrite_zero gz _ _ c73z).mono ?_); rintro e w9 ⟨rfl, rfl⟩))
    have S1 := Lib.hid (hsum_yes g (p.bs ++ q.bs) w8 HH8.out (by rw [List.length_append, Lp.out, Lq.out]; omega) (HT.out.kept HB8.out))
    have S2 := Lib.hid (fun W (h : Below w8.heap.size w8 W) => hsum_yes k (p.bs ++ r.bs) W (HK8.out.kept h) (by rw [List.length_append, Lp.out, Lr.out]; omega) (HT.out.kept (HB8.out.trans (h.mono HB8.out.size))))
    have hcat : ∀ (p q : Pt), PtOk w w.heap.size p → PtOk w w.heap.size q → p.n ≤ 300 → q.n ≤ 300 → ∀ W, Below w8.heap.size w8 W →
        Calls Tryd.prog 18 #[.slice (some ⟨W.heap.size, 0, none⟩) 2 2] (W.alloc (.cells #[.slice p.A p.n p.c, .slice q.A q.n q.c] 29)) fun e w' => ∃ A' c', e = .returned (.slice A' (p.n + q.n) c') ∧ Hid (Rd w' w'.heap.size 1 A' (p.n + q.n) ((p.bs ++ q.bs).flatMap encB)) ∧ Below W.heap.size W w' := fun p q hp hq hp3 hq3 W h => by
      have hbW := HB8.out.trans (h.mono HB8.out.size)
      have hbW2 := bal' hbW (.cells #[.slice p.A p.n p.c, .slice q.A q.n q.c] 29) hbW.size
      refine (refCat_any (some ⟨W.heap.size, 0, none⟩) 2 2 [p, q] (W.alloc (.cells #[.slice p.A p.n p.c, .slice q.A q.n q.c] 29)) rfl (by decide) (Rd.fresh _ _ _ 2 1 _ rfl)
        (fun x hx => by simp only [List.mem_cons, List.not_mem_nil, or_false] at hx; rcases hx with rfl | rfl <;> first | exact hp.kept hbW2 hbW2.size | exact hq.kept hbW2 hbW2.size) (N := p.n + q.n) (by simp [catN, hp.1, hq.1]) (by omega)).mono ?_
      rintro e w' ⟨A', c', rfl, ho, hb⟩
      refine ⟨A', c', rfl, ?_, (bal (Below.refl W.heap.size W) _).trans (hb.mono (by simp))⟩
      have := Rd.of_own ho
      rw [show catN [p, q] = p.bs ++ q.bs by simp [catN]] at this
      exact Lib.hid this
    have C1 := Lib.hid (hcat p q HPp.out HPq.out hp3 hq3)
    have C2 := Lib.hid (hcat p r HPp.out HPr.out hp3 hr3)
    have okk : ∀ {a b : List Int}, BytesOk a → BytesOk b → BytesOk (a ++ b) := fun ha hb x hx => (List.mem_append.1 hx).elim (ha x) (hb x)
    have R1 := Lib.hid (fun W A c (hr : Rd W W.heap.size 1 A (p.n + q.n) ((p.bs ++ q.bs).flatMap encB)) => refSum_any A (p.n + q.n) c (p.bs ++ q.bs) W (by rw [List.length_append, Lp.out, Lq.out]) (okk gp.ok gq.ok) (by omega) hr)
    have R2 := Lib.hid (fun W A c (hr : Rd W W.heap.size 1 A (p.n + r.n) ((p.bs ++ r.bs).flatMap encB)) => refSum_any A (p.n + r.n) c (p.bs ++ r.bs) W (by rw [List.length_append, Lp.out, Lr.out]) (okk gp.ok gr.ok) (by omega) hr)
    have heq1 := fun W => eq_node (outB_len (sumV vI (p.bs ++ q.bs))) W
    have heq2 := fun W => eq_node (outB_len (sumV vI (p.bs ++ r.bs))) W
    rw [show outB (sumV vI (p.bs ++ q.bs)) = sumB (p.bs ++ q.bs) from rfl] at heq1
    rw [show outB (sumV vI (p.bs ++ r.bs)) = sumB (p.bs ++ r.bs) from rfl] at heq2
    generalize sumB (p.bs ++ q.bs) = ob1 at *
    generalize sumB (p.bs ++ r.bs) = ob2 at *
    have SN := Lib.hid (fun W => hsum_nil W)
    have heq3 := fun W => eq_node (l := List.replicate 32 (0 : Int)) (by simp) W
    rw [node_lit] at heq3 SN
    clear hcat okk HH8 HPp HPq HPr
    have HZc : Hid (∀ W, Below w8.heap.size w8 W → W.cell? ⟨gz, 73, none⟩ = some (.int .i64 0)) := Lib.hid fun W h => (h.cell (p := ⟨gz, 73, none⟩) hz8).trans c73z
    go_wp2_with (first
      | (go_at_call 25; (with_reducible refine S1.out.mono ?_); rintro e w9 ⟨rfl, hb9⟩)
      | (go_at_call 18; (with_reducible refine (C1.out _ hb9).mono ?_); rintro e w10 ⟨A10, c10, rfl, hr10, hb10⟩; have hb10 := hb9.trans (hb10.mono hb9.size))
      | (go_at_call 17; (with_reducible refine (R1.out _ A10 c10 hr10.out).mono ?_); rintro e w11 ⟨rfl, hb11⟩; have hb11 := hb10.trans (hb11.mono hb10.size))
      | (go_at_call 25; (with_reducible refine (S2.out _ hb11).mono ?_); rintro e w12 ⟨rfl, hb12⟩; have hb12 := hb11.trans (hb12.mono hb11.size))
      | (go_at_call 18; (with_reducible refine (C2.out _ hb12).mono ?_); rintro e w13 ⟨A13, c13, rfl, hr13, hb13⟩; have hb13 := hb12.trans (hb13.mono hb12.size))
      | (go_at_call 17; (with_reducible refine (R2.out _ A13 c13 hr13.out).mono ?_); rintro e w14 ⟨rfl, hb14⟩; have hb14 := hb13.trans (hb14.mono hb13.size))
      | (go_at_call 25; (with_reducible refine (SN.out _).mono ?_); rintro e w15 ⟨rfl, hb15⟩; have hb15 := hb14.trans (hb15.mono hb14.size))
      | (go_at_call 26; (with_reducible refine (hlen_zero gz _ (HZc.out _ hb15)).mono ?_); rintro e w16 ⟨rfl, rfl⟩)
      | (go_at_call 27; (with_reducible refine (hclone_nil _).mono ?_); rintro e w17 ⟨rfl, rfl⟩)
      | (go_at_call 27; (with_reducible refine (hclone_zero gz _ (HZc.out _ hb15)).mono ?_); rintro e w17 ⟨rfl, rfl⟩))
    go_ret
    exact ⟨rfl, HB8.out.trans (hb15.mono HB8.out.size)⟩
end Go.Proofs.YtjcklmhkdpbbdaaDoor
