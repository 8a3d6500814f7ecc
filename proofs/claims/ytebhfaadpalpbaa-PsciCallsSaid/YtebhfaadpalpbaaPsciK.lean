/- Chapter 29, processors: made, by the program. -/
import Derived.Test.YtebhfaadpalpbaaPsciH
import Derived.Test.YtebhfaadpalpbaaAppR
import Derived.Deep.RegionLaw
namespace Go.Proofs.Ytebhfaadpalpbaa
set_option linter.unusedVariables false
open Go.RowKit Go.Sort

theorem newN_app (l : List Vc) (v : Vc) : newN (l ++ [v]) = if (findN (newN l) (IntKind.u64.wrap v.id)).isSome then newN l else newN l ++ [v] := by
  unfold newN
  rw [List.foldl_append]
  rfl
theorem newN_len (l : List Vc) : (newN l).length ≤ l.length := by
  suffices h : ∀ (l a : List Vc), (l.foldl (fun cs v => if (findN cs (IntKind.u64.wrap v.id)).isSome then cs else cs ++ [v]) a).length ≤ a.length + l.length by simpa [newN] using h l []
  intro l
  induction l with
  | nil => intro a; simp
  | cons v l ih =>
    intro a
    rw [List.foldl_cons]
    refine Nat.le_trans (ih _) ?_
    split <;> simp <;> omega
theorem newN_take {l : List Vc} {k : Nat} (h : k < l.length) : newN (l.take (k + 1)) = if (findN (newN (l.take k)) (IntKind.u64.wrap l[k].id)).isSome then newN (l.take k) else newN (l.take k) ++ [l[k]] := by
  rw [List.take_add_one, List.getElem?_eq_getElem h]
  exact newN_app _ _
theorem newN_take_len (l : List Vc) (k : Nat) : (newN (l.take k)).length ≤ k := Nat.le_trans (newN_len _) (by simp; omega)

theorem OwnS.toBase {w : World} {B : Nat} {e : TypeId} {size n : Nat} {v : Value} {xs : List Value} (h : OwnS w (B ≤ ·) e size v n xs) : w.ownsRow B e size v n xs := by
  obtain ⟨⟨h1, h2⟩, h3⟩ := h
  refine ⟨h1, h2.imp_right ?_⟩
  rintro ⟨g, cap, cur, rfl, _, r⟩
  exact ⟨g, cap, cur, rfl, h3 g (by simp [Value.ownBlock]), r⟩
theorem psto_push {B : Nat} {w3 w4 : World} {T : TypeId} {g : Nat} {cs : List Vc} {d : Int} {v0 v2 : Value} (hB : Blk w3 g T #[v0, .int .i64 d]) (hg : B ≤ g) (ho : w3.ownsRow B 76 5 v0 cs.length (cs.flatMap encV)) (hT : 76 ≠ T) (v : Vc)
    (h4 : w4.ownsRow B 76 5 v2 (cs.length + 1) (cs.flatMap encV ++ encV v)) (hgr : w3.grownBy w4 v0.ownBlock) :
    (PSto (w4.setCell ⟨g, 0, none⟩ v2) T (B ≤ ·) g ⟨cs ++ [v], d⟩ ∧ Near (B ≤ ·) w3 (w4.setCell ⟨g, 0, none⟩ v2)) ∧ (∀ i, w4.cell? ⟨g, i, none⟩ = #[v0, .int .i64 d][i]?) ∧ ∀ i, w4.frozen? ⟨g, i, none⟩ = false := by
  have hB4 := hB.grown hgr (own_blk_ne ho hB hT)
  refine ⟨⟨⟨v2, by simpa using hB4.set_ 0 v2, hg, OwnS.set ?_ _ ?_ _⟩, ((Near.refl (B ≤ ·) w3).grown hgr (fun k hk => (own_lt ho hk).1)).setCell hg _⟩, hB4.cell, hB4.frozen⟩
  · have := OwnS.of (S := (B ≤ ·)) h4 (fun k h => h)
    simpa using this
  · exact own_blk_ne h4 hB4 hT

set_option maxHeartbeats 4000000 in
theorem new_any (A : Option Addr) (n c : Nat) (l : List Vc) (w : World) (hl : l.length = n) (hn : n ≤ 1000) (hr : Rd w w.heap.size 5 A n (l.flatMap encV)) :
    Calls Try.prog 13 #[.slice A n c] w fun e w' => ∃ g, e = .returned (.pointer (some ⟨g, 0, none⟩)) ∧ PSto w' 89 (w.heap.size ≤ ·) g ⟨newN l, 0⟩ ∧ Below w.heap.size w w' := by
  have HL := Lib.hid hl
  have HR := Lib.hid hr
  have HEnd := Lib.hid (show l.take n = l by rw [← hl]; exact List.take_length ..)
  clear hl hr
  go_enter Try.func13, Try.ntmps13
  go_wp2
  refine wp_name ?_
  intro w1 hw1
  have hb1 : RowKit.Below w.heap.size w w1 := by rw [hw1]; exact bal (Below.refl _ _) _
  have hP1 : PSto w1 89 (w.heap.size ≤ ·) w.heap.size ⟨[], 0⟩ := by
    rw [hw1]
    exact ⟨_, Blk.new _ _ _, Nat.le_refl _, World.ownsRow_nil _ _ _ _, fun k hk => by simp [Value.ownBlock] at hk⟩
  clear hw1
  go_loopw [12] (fun i wr => ∃ k : Nat, k ≤ n ∧ i = .int .i64 k ∧ PSto wr 89 (w.heap.size ≤ ·) w.heap.size ⟨newN (l.take k), 0⟩ ∧ Below w.heap.size w wr) (fun i _ => n - (intOf i).toNat)
  case atStart => exact ⟨0, by omega, rfl, by simpa [newN] using hP1, hb1⟩
  case round =>
    obtain ⟨k, hk, rfl, hP, hb⟩ := hrel
    clear hP1 hb1
    by_cases hlt : k < n
    · have hlt' : k < l.length := by rw [HL.out]; exact hlt
      have hlen := newN_take_len l k
      have HF := Lib.hid (fun W hW => find_any w.heap.size (w.heap.size ≤ ·) ⟨newN (l.take k), 0⟩ (IntKind.u64.wrap l[k].id) W hW (Nat.le_trans hlen (by omega)))
      obtain ⟨b, o, rfl, hbb, hcc⟩ := (HR.out.below hb).row (fun _ => rfl) hlt' HL.out
      have d0 := hcc 0 (by omega)
      have d1 := hcc 1 (by omega)
      have d2 := hcc 2 (by omega)
      have d3 := hcc 3 (by omega)
      have d4 := hcc 4 (by omega)
      simp only [encV, Nat.add_zero, List.getElem?_cons_zero, List.getElem?_cons_succ] at d0 d1 d2 d3 d4
      have HN := Lib.hid (newN_take hlt')
      have lZ := hb.size
      clear hcc
      cases hx : findN (newN (l.take k)) (IntKind.u64.wrap l[k].id) with
      | some i =>
        rw [hx] at HN
        simp only [hx, coreV_some] at HF
        clear hx
        generalize l[k] = v at *
        generalize (newN (l.take k)).getD i zV = u at *
        go_wp2_with (go_at_call 32; refine (HF.out _ (hP.kept (bal (Below.refl _ _) _))).mono ?_; rintro e w1 ⟨rfl, hb1⟩; have hbx : RowKit.Below wr.heap.size wr w1 := (bal (Below.refl _ _) _).trans (hb1.mono (by simp)))
        go_roundw
        case rel =>
          exact ⟨k + 1, by omega, by go_num, by rw [HN.out]; exact hP.kept (bal hbx _), hb.trans ((bal hbx _).mono hb.size)⟩
        case measure => simp [intOf]; omega
      | none =>
        rw [hx] at HN
        simp only [hx, coreV] at HF
        clear hx
        generalize l[k] = v at *
        go_wp2_with (go_at_call 32; refine (HF.out _ (hP.kept (bal (Below.refl _ _) _))).mono ?_; rintro e w1 ⟨rfl, hb1⟩; have hbx : RowKit.Below wr.heap.size wr w1 := (bal (Below.refl _ _) _).trans (hb1.mono (by simp)))
        refine wp_name ?_
        intro w2 hw2
        have hbw : RowKit.Below wr.heap.size wr w2 := by rw [hw2]; exact bal hbx _
        have hV : Blk w2 wr.heap.size 76 #[.int .i64 v.id, .bool v.on, .int .u64 v.pc, .int .u64 v.x0, .int .u64 v.sp] := by rw [hw2]; exact ((Blk.new _ _ _).kept hb1).alloc _
        clear hw2 hb1 hbx d0 d1 d2 d3 d4
        obtain ⟨v0, hB0, hg, ho0⟩ := hP
        have HO := Lib.hid (show ∀ k, v0.ownBlock = some k → wr.heap.size ≤ k → False from fun k hk h => absurd (own_lt ho0.1 hk).2 (by omega))
        have hB := hB0.kept hbw
        have ho := ho0.kept hbw
        clear hB0 ho0
        have ho := ho.toBase
        simp only at hB ho
        obtain ⟨A2, c2, rfl, hc2, hr2⟩ := own_slice ho
        have hB3 := (hB.alloc (.cells #[.int .i64 v.id, .bool v.on, .int .u64 v.pc, .int .u64 v.x0, .int .u64 v.sp] 76)).drew
        have hV3 := (hV.alloc (.cells #[.int .i64 v.id, .bool v.on, .int .u64 v.pc, .int .u64 v.x0, .int .u64 v.sp] 76)).drew
        have ho3 := own_kept ho (below_drewN (bal (Below.refl w2.heap.size w2) (.cells #[.int .i64 v.id, .bool v.on, .int .u64 v.pc, .int .u64 v.x0, .int .u64 v.sp] 76)) 1)
        have hbz : RowKit.Below wr.heap.size wr ((w2.alloc (.cells #[.int .i64 v.id, .bool v.on, .int .u64 v.pc, .int .u64 v.x0, .int .u64 v.sp] 76)).drew) := (bal hbw _).drew
        have h63 : (newN (l.take k)).length + 1 ≤ maxLen := by unfold maxLen; omega
        have hby : ((newN (l.take k)).length + 1) * 40 ≤ 140737488355328 := by omega
        have HZ := Lib.hid (show w.heap.size ≤ ((w2.alloc (.cells #[.int .i64 v.id, .bool v.on, .int .u64 v.pc, .int .u64 v.x0, .int .u64 v.sp] 76)).drew).heap.size from Nat.le_trans lZ hbz.size)
        have HM := Lib.hid h63
        have HM2 := Lib.hid hby
        have hB2 := hB.cell
        have hV2 := hV.cell
        have hvk : some wr.heap.size ≠ (Value.slice A2 (newN (l.take k)).length c2).ownBlock := fun h => HO.out wr.heap.size h.symm (Nat.le_refl _)
        clear h63 hby
        generalize newN (l.take k) = cs at *
        have lB := hB.lt
        have cB3 := hB3.cell
        go_region_law
          ((refine step_app vcpu_elem (by rfl) (.tmp 30) (.tmp 32) (by rfl) w.heap.size ho3 (by rfl) (by rfl) (Rd.fresh _ _ _ 1 5 _ rfl) (by intro u hu; simp at hu; rcases hu with rfl | rfl | rfl | rfl | rfl <;> rfl) HM.out HM2.out HZ.out ?_; intro A4 c4 w4 hown4 hb4 hgr; have hK := psto_push hB3 hg ho3 (by decide) v hown4 hgr; have hV4 := hV3.grown hgr hvk; have hcl4 := hK.2.1; have hfz4 := hK.2.2; have HK := Lib.hid hK.1; clear hK))
        all_goals go_wp2
        all_goals go_roundw
        all_goals first
          | exact ⟨k + 1, by omega, by go_num, by rw [HN.out]; exact HK.out.1, hb.trans (((Near.of_below (w.heap.size ≤ ·) hbz).trans HK.out.2).below (fun _ h => h) lZ)⟩
          | (simp [intOf]; omega)
    · obtain rfl : k = n := by omega
      go_wp2
      go_ret
      exact ⟨_, rfl, by rw [HEnd.out] at hP; exact hP, hb⟩
end Go.Proofs.Ytebhfaadpalpbaa
