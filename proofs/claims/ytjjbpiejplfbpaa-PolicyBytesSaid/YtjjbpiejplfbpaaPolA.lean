/- Chapter 27: bytes that grow. -/
import Derived.Test.YtjjbpiejplfbpaaCat
import Derived.Test.YtjjbpiejplfbpaaWordPut
import Derived.Test.YtjjbpiejplfbpaaAppR
import Derived.Deep.RegionLaw
namespace Go.Proofs.Ytjjbpiejplfbpaa
set_option linter.unusedVariables false
open Go.RowKit Go.Sort

set_option maxHeartbeats 2000000 in
theorem four_any (g : Nat) (ty : TypeId) (A A2 : Option Addr) (n c n2 c2 : Nat) (bs l : List Int) (w : World) (hB : Blk w g ty #[.slice A n c]) (hl : bs.length = n) (hl2 : l.length = n2) (hm : n ≤ 100000000) (hm2 : n2 ≤ 100000000) (hx : ∀ x ∈ l, 0 ≤ x ∧ x < 4294967296)
    (hr : Rd w w.heap.size 1 A n (bs.flatMap encB)) (hr2 : Rd w w.heap.size 1 A2 n2 (l.flatMap encU32)) :
    Calls Try.prog 24 #[.pointer (some ⟨g, 0, none⟩), .slice A2 n2 c2] w fun e w' => e = .returned (.tuple #[]) ∧ ∃ A' c', Blk w' g ty #[.slice A' (n + 4 * n2) c'] ∧ w'.ownsRow w.heap.size 5 1 (.slice A' (n + 4 * n2) c') (n + 4 * n2) ((bs ++ l.flatMap (bytesN 4 false)).flatMap encB) ∧ Near (fun i => i = g) w w' := by
  have HP := Lib.hid (putBe32_any A A2 n c n2 c2 bs l w hl hl2 hm hm2 hx hr hr2)
  have cB := hB.cell
  clear hl hl2 hx hr hr2
  go_enter Try.func24, Try.ntmps24
  go_wp2_with (go_at_call 38; refine HP.out.mono ?_; rintro e w1 ⟨A', c', rfl, hown, hb1⟩; have hB1 := hB.kept hb1; have cB1 := hB1.cell; have fB1 := hB1.frozen)
  go_end0
  refine ⟨rfl, A', c', hB1.set_ 0 _, own_same hown fun k hk => ?_, (Near.of_below (fun i => i = g) hb1).setCell (p := ⟨g, 0, none⟩) rfl _⟩
  have h1 := (own_lt hown hk).1
  exact Below.heap_setCell _ _ _ _ (by have := hB.lt; simp; omega)
set_option maxHeartbeats 2000000 in
theorem eight_any (g : Nat) (ty : TypeId) (A A2 : Option Addr) (n c n2 c2 : Nat) (bs l : List Int) (w : World) (hB : Blk w g ty #[.slice A n c]) (hl : bs.length = n) (hl2 : l.length = n2) (hm : n ≤ 100000000) (hm2 : n2 ≤ 100000000) (hx : ∀ x ∈ l, 0 ≤ x ∧ x < 18446744073709551616)
    (hr : Rd w w.heap.size 1 A n (bs.flatMap encB)) (hr2 : Rd w w.heap.size 1 A2 n2 (l.flatMap encQ)) :
    Calls Try.prog 25 #[.pointer (some ⟨g, 0, none⟩), .slice A2 n2 c2] w fun e w' => e = .returned (.tuple #[]) ∧ ∃ A' c', Blk w' g ty #[.slice A' (n + 8 * n2) c'] ∧ w'.ownsRow w.heap.size 5 1 (.slice A' (n + 8 * n2) c') (n + 8 * n2) ((bs ++ l.flatMap (bytesN 8 false)).flatMap encB) ∧ Near (fun i => i = g) w w' := by
  have HP := Lib.hid (putBe64_any A A2 n c n2 c2 bs l w hl hl2 hm hm2 hx hr hr2)
  have cB := hB.cell
  clear hl hl2 hx hr hr2
  go_enter Try.func25, Try.ntmps25
  go_wp2_with (go_at_call 41; refine HP.out.mono ?_; rintro e w1 ⟨A', c', rfl, hown, hb1⟩; have hB1 := hB.kept hb1; have cB1 := hB1.cell; have fB1 := hB1.frozen)
  go_end0
  refine ⟨rfl, A', c', hB1.set_ 0 _, own_same hown fun k hk => ?_, (Near.of_below (fun i => i = g) hb1).setCell (p := ⟨g, 0, none⟩) rfl _⟩
  have h1 := (own_lt hown hk).1
  exact Below.heap_setCell _ _ _ _ (by have := hB.lt; simp; omega)

theorem own_le_base {w : World} {b b' : Nat} {e : TypeId} {size n : Nat} {v : Value} {xs : List Value} (h : w.ownsRow b e size v n xs) (hb : b' ≤ b) : w.ownsRow b' e size v n xs :=
  ⟨h.1, h.2.imp_right fun ⟨g, cap, cur, hv, hg, r⟩ => ⟨g, cap, cur, hv, Nat.le_trans hb hg, r⟩⟩
theorem info_sl : (Try.prog.info? 39).map (fun i => (i.zero, i.size, i.bytes)) = some (some (.slice none 0 0), 1, 24) := by kernel_rfl
theorem sl_elem : ElemInfo Try.prog 99 39 1 24 := by
  obtain ⟨i, hi, hz, hs, hb⟩ := info_parts info_sl
  exact ⟨Try.underlying99, ⟨i, _, hi, hz, hs, hb, rfl⟩, by decide⟩
theorem one_pt (l : List Pt) : ∀ u ∈ l.flatMap encPt, u.oneCell' = true := by
  intro u hu; obtain ⟨x, _, hx⟩ := List.mem_flatMap.1 hu; simp [encPt] at hx; subst hx; rfl
theorem PtOk.below {w w' : World} {B B' : Nat} {p : Pt} (h : PtOk w B p) (hb : Below B w w') (hB : B ≤ B') : PtOk w' B' p := ⟨h.1, (h.2.below hb).more hB⟩

set_option maxHeartbeats 2000000 in
theorem raw_any (g : Nat) (ty : TypeId) (A A2 : Option Addr) (n c n2 c2 : Nat) (bs : List Int) (ps : List Pt) (w : World) (hB : Blk w g ty #[.slice A n c]) (hl : bs.length = n) (hl2 : ps.length = n2) (hm2 : n2 ≤ 100000)
    (hr : Rd w w.heap.size 1 A n (bs.flatMap encB)) (hr2 : Rd w w.heap.size 1 A2 n2 (ps.flatMap encPt)) (hp : ∀ p ∈ ps, PtOk w w.heap.size p) {N : Nat} (hN : (bs ++ catN ps).length = N) (hs : N ≤ 100000000) :
    Calls Try.prog 26 #[.pointer (some ⟨g, 0, none⟩), .slice A2 n2 c2] w fun e w' => e = .returned (.tuple #[]) ∧ ∃ A' c', Blk w' g ty #[.slice A' N c'] ∧ w'.ownsRow w.heap.size 5 1 (.slice A' N c') N ((bs ++ catN ps).flatMap encB) ∧ Near (fun i => i = g) w w' := by
  have HR2 := Lib.hid hr2
  have cB := hB.cell
  have HC := Lib.hid (fun (W : World) (hb : Below w.heap.size w W) A3 c3 (h : Rd W W.heap.size 1 A3 (1 + n2) ((⟨A, n, c, bs⟩ :: ps).flatMap encPt)) =>
    cat_any A3 (1 + n2) c3 (⟨A, n, c, bs⟩ :: ps) W (by simp [hl2]; omega) (by omega) h (fun p hp' => by
      rcases List.mem_cons.1 hp' with rfl | hp'
      · exact ⟨hl, (hr.below hb).more hb.size⟩
      · exact (hp p hp').below hb hb.size) (N := N) (by simpa [catN] using hN) hs)
  have hcat : catN (⟨A, n, c, bs⟩ :: ps) = bs ++ catN ps := rfl
  rw [hcat] at HC
  have HMx := Lib.hid (show 1 + n2 ≤ maxLen by unfold maxLen; omega)
  have HMy := Lib.hid (show (1 + n2) * 24 ≤ 140737488355328 by omega)
  have HOne := Lib.hid (one_pt ps)
  have HOw := Lib.hid (show (w.alloc (.cells #[.slice A n c] 39)).ownsRow w.heap.size 39 1 (.slice (some ⟨w.heap.size, 0, none⟩) 1 1) 1 [.slice A n c] from
    ⟨rfl, .inr ⟨w.heap.size, 1, #[.slice A n c], rfl, Nat.le_refl _, heap_alloc_new w _, Nat.le_refl _, by unfold maxLen; omega, rfl, rfl⟩⟩)
  clear hl hl2 hr hr2 hp hN hcat
  go_enter Try.func26, Try.ntmps26
  go_wp2_with (first
    | (at_builtin; refine wpList_app sl_elem rfl (.tmp 9) (.tmp 10) rfl w.heap.size HOw.out rfl rfl (HR2.out.alloc (Nat.le_refl _) _) HOne.out HMx.out HMy.out (by simp) ?_; intro v5 w5 hown5 hb5 _; obtain ⟨A5, c5, rfl, _, hr5⟩ := own_slice hown5; have hb15 := (bal (Below.refl w.heap.size w) _).trans hb5)
    | (go_at_call 40; refine (HC.out _ hb15 A5 c5 hr5).mono ?_; rintro e w1 ⟨A', c', rfl, hown, hb1⟩; have hbx := hb15.trans (hb1.mono hb15.size); have hB1 := hB.kept hbx; have cB1 := hB1.cell; have fB1 := hB1.frozen; have hz := hb15.size))
  go_end0
  refine ⟨rfl, A', c', hB1.set_ 0 _, own_same (own_le_base hown hz) fun k hk => ?_, (Near.of_below (fun i => i = g) hbx).setCell (p := ⟨g, 0, none⟩) rfl _⟩
  have h1 := (own_lt hown hk).1
  exact Below.heap_setCell _ _ _ _ (by have := hB.lt; simp; omega)
end Go.Proofs.Ytjjbpiejplfbpaa
