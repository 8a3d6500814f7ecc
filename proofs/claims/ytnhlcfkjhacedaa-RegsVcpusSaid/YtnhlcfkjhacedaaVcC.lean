/- Chapter 21, the processors of a guest: the program's. -/
import Derived.Test.YtnhlcfkjhacedaaVcB
import Derived.Test.YtnhlcfkjhacedaaNear
import Derived.BigRegionIn
namespace Go.Proofs.Ytnhlcfkjhacedaa
set_option linter.unusedVariables false
open Go.RowKit Go.Shelf
attribute [local go_sem] Oper.semAt_some

def rawV (i : Int) : Vc := ⟨i, false, 0, 0, 965⟩
/-- The processors, the first one running. -/
def runN (e d : Int) : List Vc → List Vc
  | [] => []
  | v :: l => ⟨v.id, true, e, d, v.sp⟩ :: l
theorem vsN_raw (x e d : Int) : ∀ k, vsN x e d k = runN e d ((bitsI x k).map rawV)
  | 0 => rfl
  | k + 1 => by
    have ih := vsN_raw x e d k
    unfold vsN bitsI
    split
    · rw [ih]
      cases h : bitsI x k with
      | nil => simp [runN, rawV]
      | cons v l => simp [runN, rawV]
    · exact ih
theorem raw_app (pre : List Int) (v : Int) : ((pre ++ [v]).map rawV).flatMap encV = (pre.map rawV).flatMap encV ++ encV (rawV v) := by simp
theorem cells_new (w : World) (xs : List Value) (t : TypeId) : ∀ j u, xs[j]? = some u → (w.alloc (.cells xs.toArray t)).cell? ((⟨w.heap.size, 0, none⟩ : Addr).add j) = some u := by
  intro j u hj
  rw [show ((⟨w.heap.size, 0, none⟩ : Addr).add j) = ⟨w.heap.size, j, none⟩ by cases j <;> simp [Addr.add], (Blk.new w t xs.toArray).cell j]
  simpa using hj

set_option maxRecDepth 100000 in
set_option maxHeartbeats 4000000 in
theorem pvcpus_in (x e d : Int) (hx0 : 0 ≤ x) (hx1 : x < 4294967296) (w : World) :
    CallsIn Fence.wide 5 Try.prog 12 #[.int .u32 x, .int .u64 e, .int .u64 d] w fun e' W' => ∃ v, e' = .returned v ∧ W'.ownsRow w.heap.size 28 5 v (vsN x e d 32).length ((vsN x e d 32).flatMap encV) ∧ Below w.heap.size w W' := by
  have hro : Fence.wide.round = none := rfl
  have h1f : Fence.wide.fn 12 := trivial
  have h2f : Fence.wide.fn 32 := trivial
  have h3f : Fence.wide.fn 45 := trivial
  have h1 : 1 ≤ 5 := by omega
  obtain ⟨i0, hi, hz0, hz1, hz2⟩ := info_parts info_vcpu
  refine callsIn_of_wp_marks Try.func12 rfl h1f ?_ hro
  simp only [Try.ntmps12, List.size_toArray, List.length_cons, List.length_nil, Nat.reduceAdd, Nat.reduceSub, Array.replicate_succ, Array.replicate_zero, List.push_toArray, List.append_toArray, List.nil_append, List.cons_append]
  gi_wp2_with (gi_at_call 32; refine (set_in Fence.wide (5 - 1) h2f hro _ _).mono ?_; rintro e w' ⟨rfl, rfl⟩)
  have bO := Boxed.new w 25 (.slice none 0 0)
  have bN := Boxed.new (w.alloc (.cells #[.slice none 0 0] 25)) 22 (.int .u32 x)
  rw [World.size_alloc] at bN
  have hB0 : RowKit.Below w.heap.size w ((w.alloc (.cells #[.slice none 0 0] 25)).alloc (.cells #[.int .u32 x] 22)) := ((Below.refl _ w).alloc (Nat.le_refl _) _).alloc (by simp) _
  refine wpIn_rangeFunc_ownG hro h1 (gf := 45) (lb := #[.pointer (some ⟨w.heap.size + 1, 0, none⟩)]) rfl h3f (enters_of Try.func45 (by kernel_rfl) rfl)
    (set_stops Fence.wide (5 - 1) h3f hro (by omega) (w.heap.size + 1) x hx0 hx1 _ bN) kpB_t (kpB_b (by simp)) (Below.refl _ _) (fun _ => rfl)
    (fun (pre : List Int) W => (∃ v, Boxed W w.heap.size 25 v ∧ W.ownsRow w.heap.size 28 5 v pre.length ((pre.map rawV).flatMap encV) ∧ True) ∧ RowKit.Below w.heap.size w W ∧ Boxed W (w.heap.size + 1) 22 (.int .u32 x))
    (fun _ _ _ => False)
    (OwnFrom.and (Own.from (holdsRow_own w.heap.size w.heap.size 25 28 5 (fun pre : List Int => pre.length) (fun pre => (pre.map rawV).flatMap encV) (fun pre v => True)) _) (OwnFrom.and (ownFrom_below (Nat.le_refl _) (by simp; omega)) (Own.from (boxed_own _ _ _) _)))
    (fun _ _ _ _ _ hs _ _ => hs)
    ⟨⟨_, bO.alloc _, World.ownsRow_nil _ _ _ _, trivial⟩, hB0, bN⟩
    (fun i => { tmps := #[.int .u32 x, .int .u64 e, .int .u64 d, undef, undef, undef, .slice none 0 0, .pointer (some ⟨w.heap.size, 0, none⟩), .int .i64 i, .int .u32 x, .func (.func 45) #[] #[.pointer (some ⟨w.heap.size + 1, 0, none⟩)], .int .i64 i, undef, undef, undef, undef, undef, undef, undef, undef, undef, undef, undef, undef, undef, undef, undef, undef, undef, undef, undef, undef], defers := [] }) ?assign ?body ?done ?stop
  case assign =>
    intro l x W K hK
    gi_wp2
    exact hK
  case body =>
    rintro l pre v W ⟨⟨s, hv, hrow, -⟩, hB, hz⟩ hlt
    have hc := hv.cell
    gi_wp2_with (gi_at_builtin; refine wpListIn_append_own _ rfl _ _ 25 rfl w.heap.size 28 i0 (.agg #[.int .i64 0, .bool false, .int .u64 0, .int .u64 0, .int .u64 0]) 5 40 Try.underlying25 hi hz0 hz1 hz2 rfl (by decide) _ _ _ rfl (hrow.alloc _) ⟨W.heap.size, 0, none⟩ 1 1 (encV (rawV v)) rfl rfl (cells_new _ _ _) (by intro u hu; simp [encV, rawV] at hu; rcases hu with rfl | rfl | rfl | rfl <;> rfl) (by unfold maxLen; omega) (by omega) (by have := hB.size; simp; omega) ?_; intro v' w1 hown' hgrow _; obtain ⟨g', cap', rfl⟩ := ownsRow_succ hown'; obtain ⟨hv1, hv2, hr2, hk2, hb2⟩ := hv.appended (by decide) hrow hB.size (Nat.le_refl _) hown' hgrow; have hc1 := hv1.cell; have hf1 := hv1.frozen)
    have hne : some (w.heap.size + 1) ≠ s.ownBlock := own_blk_ne hrow (show Blk W (w.heap.size + 1) 22 #[.int .u32 x] from hz) (by decide)
    have hz2 := ((hz.alloc _).kept hgrow hne).kept (grownBy_setCell' w1 w.heap.size (.slice (some ⟨g', 0, none⟩) (pre.length + 1) cap')) (by simp)
    exact ⟨hk2.from _, hz2.trans hz.symm, ⟨⟨_, hv2, by rw [raw_app]; simpa using hr2, trivial⟩, hB.trans hb2, hz2⟩⟩
  case done =>
    rintro D ys W hD rfl ⟨⟨v, hv, hrow, -⟩, hB, hz⟩ hK
    have hc := hv.cell
    cases hbits : bitsI x 32 with
    | nil =>
      have hvs : vsN x e d 32 = [] := by rw [vsN_raw, hbits]; rfl
      rw [hbits] at hrow
      obtain ⟨A, c, rfl, _, _⟩ := own_slice hrow
      gi_wp2
      refine ⟨by simp, .inl ⟨_, _, rfl, run_takeDeferred hK, ?_⟩⟩
      exact ⟨_, results_tmp rfl _ _ _, _, rfl, by rw [hvs]; exact ownsRow_putObj hrow _ hK rfl, hB.trans (belowK_b (w := w) (Nat.le_refl _) W D _ _ (by simp at hD; omega) hK rfl rfl)⟩
    | cons i0' l0 =>
      have hvs : vsN x e d 32 = ⟨i0', true, e, d, 965⟩ :: l0.map rawV := by rw [vsN_raw, hbits]; rfl
      rw [hbits] at hrow
      obtain ⟨g', cap', rfl⟩ := ownsRow_succ hrow
      have c1 := hrow.cellAt 1 (by have : (i0' :: l0).length = l0.length + 1 := rfl; omega)
      have c2 := hrow.cellAt 2 (by have : (i0' :: l0).length = l0.length + 1 := rfl; omega)
      have c3 := hrow.cellAt 3 (by have : (i0' :: l0).length = l0.length + 1 := rfl; omega)
      have hf := hrow.frozenAt
      simp only [List.map_cons, List.flatMap_cons, encV, rawV, List.cons_append, List.getElem?_cons_succ, List.getElem?_cons_zero] at c1 c2 c3
      have hgne : g' ≠ w.heap.size := by
        have := own_blk_ne hrow (show Blk W w.heap.size 25 #[_] from hv) (by decide)
        intro h; apply this; simp [Value.ownBlock, h]
      have hgb : w.heap.size ≤ g' := (own_lt hrow (k := g') (by simp [Value.ownBlock])).1
      have h3 := (((hrow.stored 1 (.bool true)).1.stored 2 (.int .u64 e)).1.stored 3 (.int .u64 d)).1
      have hrow3 : (((W.setCell ⟨g', 1, none⟩ (.bool true)).setCell ⟨g', 2, none⟩ (.int .u64 e)).setCell ⟨g', 3, none⟩ (.int .u64 d)).drew.ownsRow w.heap.size 28 5 (.slice (some ⟨g', 0, none⟩) (l0.length + 1) cap') (vsN x e d 32).length ((vsN x e d 32).flatMap encV) := by
        have e1 : (((((i0' :: l0).map rawV).flatMap encV).set 1 (.bool true)).set 2 (.int .u64 e)).set 3 (.int .u64 d) = (vsN x e d 32).flatMap encV := by rw [hvs]; rfl
        rw [e1] at h3
        rw [hvs] at h3 ⊢
        simpa using own_kept h3 (Below.refl _ _).drew
      have hb3 : RowKit.Below w.heap.size W (((W.setCell ⟨g', 1, none⟩ (.bool true)).setCell ⟨g', 2, none⟩ (.int .u64 e)).setCell ⟨g', 3, none⟩ (.int .u64 d)).drew :=
        ((((Below.refl _ W).setCell (p := ⟨g', 1, none⟩) hgb _).setCell (p := ⟨g', 2, none⟩) hgb _).setCell (p := ⟨g', 3, none⟩) hgb _).drew
      have hk3 : KeepsOthers W (((W.setCell ⟨g', 1, none⟩ (.bool true)).setCell ⟨g', 2, none⟩ (.int .u64 e)).setCell ⟨g', 3, none⟩ (.int .u64 d)) := ((KeepsOthers.setCell _ _ _).trans (KeepsOthers.setCell _ _ _)).trans (KeepsOthers.setCell _ _ _)
      have hK3 : (((W.setCell ⟨g', 1, none⟩ (.bool true)).setCell ⟨g', 2, none⟩ (.int .u64 e)).setCell ⟨g', 3, none⟩ (.int .u64 d)).drew.heap[D]? = some (.deferred (some [])) := hk3.same D _ hK rfl
      have HR3 := Lib.hid hrow3
      have HB3 := Lib.hid (hB.trans hb3)
      have HK3 := Lib.hid hK3
      have HD := Lib.hid hD
      clear h3 hrow3 hb3 hk3 hK3 hrow hvs hB hz hB0 bN bO hbits hv hi hz0 hz1 hz2 hD
      gi_wp2
      gi_region
      gi_wp2
      have hD := HD.out
      refine ⟨by simp, .inl ⟨_, _, rfl, run_takeDeferred HK3.out, ?_⟩⟩
      exact ⟨_, results_tmp rfl _ _ _, _, rfl, ownsRow_putObj HR3.out _ HK3.out rfl, HB3.out.trans (belowK_b (w := w) (Nat.le_refl _) _ D _ _ (by simp at hD; omega) HK3.out rfl rfl)⟩
  case stop =>
    rintro D c pre W _ _ h _
    exact h.elim
end Go.Proofs.Ytnhlcfkjhacedaa
