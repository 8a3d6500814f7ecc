/- Chapter 25: rows of the call's own, parts. -/
import Derived.Test.YtjcklmhkdpbbdaaDoorCat
import Derived.Test.YtjcklmhkdpbbdaaDoorWordPut
import Derived.Test.YtjcklmhkdpbbdaaDoorAppR
import Derived.Deep.RegionLaw
import Derived.Test.YtjcklmhkdpbbdaaDoorEqFlat
import Derived.Deep.RegionHeld3
import Derived.Deep.MidRow
import Derived.Deep.WholeRow
namespace Go.Proofs.YtjcklmhkdpbbdaaDoor
set_option linter.unusedVariables false
open Go.RowKit Go.Sort
theorem own_le_base {w : World} {b b' : Nat} {e : TypeId} {size n : Nat} {v : Value} {xs : List Value} (h : w.ownsRow b e size v n xs) (hb : b' ≤ b) : w.ownsRow b' e size v n xs :=
  ⟨h.1, h.2.imp_right fun ⟨g, cap, cur, hv, hg, r⟩ => ⟨g, cap, cur, hv, Nat.le_trans hb hg, r⟩⟩
theorem info_sl : (Tryd.prog.info? 29).map (fun i => (i.zero, i.size, i.bytes)) = some (some (.slice none 0 0), 1, 24) := by kernel_rfl
theorem sl_elem : ElemInfo Tryd.prog 22 29 1 24 := by
  obtain ⟨i, hi, hz, hs, hb⟩ := info_parts info_sl
  exact ⟨Tryd.underlying22, ⟨i, _, hi, hz, hs, hb, rfl⟩, by decide⟩
theorem one_pt (l : List Pt) : ∀ u ∈ l.flatMap encPt, u.oneCell' = true := by
  intro u hu; obtain ⟨x, _, hx⟩ := List.mem_flatMap.1 hu; simp [encPt] at hx; subst hx; rfl
theorem PtOk.below {w w' : World} {B B' : Nat} {p : Pt} (h : PtOk w B p) (hb : Below B w w') (hB : B ≤ B') : PtOk w' B' p := ⟨h.1, (h.2.below hb).more hB⟩

end Go.Proofs.YtjcklmhkdpbbdaaDoor
namespace Go.Proofs.YtjcklmhkdpbbdaaDoor
set_option linter.unusedVariables false
open Go.RowKit Go.Sort

/-- A record: its kind, index, error; its digest. -/
structure Rc where
  kind : Int
  idx : Int
  err : Int
  dig : List Int
def Rc.cs (r : Rc) : List Value := .int .i64 r.kind :: .int .i64 r.idx :: .int .i64 r.err :: r.dig.flatMap encB
structure RcOk (r : Rc) : Prop where
  len : r.dig.length = 32
  ok : BytesOk r.dig
theorem Rc.len {r : Rc} (h : RcOk r) : r.cs.length = 35 := by
  unfold Rc.cs
  have := flatB_len r.dig
  rw [h.len] at this
  simp [this]
theorem Rc.one (r : Rc) : ∀ u ∈ r.cs, u.oneCell' = true := by
  intro u hu
  unfold Rc.cs at hu
  simp only [List.mem_cons] at hu
  rcases hu with rfl | rfl | rfl | hu
  · rfl
  · rfl
  · rfl
  · exact one_b _ u hu
def Rc.may (r : Rc) : Bool := decide (1 ≤ r.kind ∧ r.kind ≤ 3 ∧ 0 ≤ r.idx ∧ r.idx < 16 ∧ 0 ≤ r.err ∧ r.err ≤ 1000)
/-- A number of any size, cut to four bytes. -/
def cut32 (x : Int) : Int := x % 4294967296
def Rc.head (r : Rc) : List Int := [cut32 r.kind, cut32 r.idx, cut32 r.err]
def Rc.bytes (r : Rc) : List Int := r.head.flatMap (bytesN 4 false) ++ r.dig
theorem cut32_ok (x : Int) : 0 ≤ cut32 x ∧ cut32 x < 4294967296 := by unfold cut32; omega
theorem Rc.bytes_len {r : Rc} (h : RcOk r) : r.bytes.length = 44 := by
  unfold Rc.bytes Rc.head
  simp [bytesN_len, h.len]

theorem digRd {w : World} {g : Nat} {t : TypeId} {r : Rc} (hr : RcOk r) (h : Blk w g t r.cs.toArray) : Rd w w.heap.size 1 (some ⟨g, 3, none⟩) 32 (r.dig.flatMap encB) := by
  refine ⟨by rw [flatB_len, hr.len], fun _ => ⟨g, 3, rfl, h.lt, fun j u hu => ?_⟩⟩
  rw [h.cell (3 + j)]
  have e : r.cs.toArray[3 + j]? = (r.dig.flatMap encB)[j]? := by
    rw [Nat.add_comm]
    simp [Rc.cs]
  rw [e]; exact hu
theorem ptsOk {w : World} {g : Nat} {t : TypeId} {r : Rc} (hr : RcOk r) {A : Option Addr} {c b : Nat} (ho : w.ownsRow b 5 1 (.slice A 12 c) 12 ((r.head.flatMap (bytesN 4 false)).flatMap encB)) (h : Blk w g t r.cs.toArray) (o : Obj) :
    ∀ p ∈ ([⟨A, 12, c, r.head.flatMap (bytesN 4 false)⟩, ⟨some ⟨g, 3, none⟩, 32, 32, r.dig⟩] : List Pt), PtOk (w.alloc o) (w.alloc o).heap.size p := by
  intro p hp
  simp only [List.mem_cons, List.not_mem_nil, or_false] at hp
  rcases hp with rfl | rfl
  · exact ⟨by simp [Rc.head, bytesN_len], ((Rd.of_own ho).alloc (Nat.le_refl _) o).more (by simp)⟩
  · exact ⟨hr.len, ((digRd hr h).alloc (Nat.le_refl _) o).more (by simp)⟩
theorem three {w : World} {g : Nat} {t : TypeId} {r : Rc} (h : Blk w g t r.cs.toArray) : w.cell? ⟨g, 0, none⟩ = some (.int .i64 r.kind) ∧ w.cell? ⟨g, 1, none⟩ = some (.int .i64 r.idx) ∧ w.cell? ⟨g, 2, none⟩ = some (.int .i64 r.err) := by
  refine ⟨?_, ?_, ?_⟩
  · rw [h.cell 0]; simp [Rc.cs]
  · rw [h.cell 1]; simp [Rc.cs]
  · rw [h.cell 2]; simp [Rc.cs]
set_option maxRecDepth 100000 in
set_option maxHeartbeats 2000000 in
theorem measPut_any (r : Rc) (h : RcOk r) (w : World) :
    Calls Tryd.prog 35 #[.agg r.cs.toArray] w fun e w' => ∃ A' c', e = .returned (.slice A' 44 c') ∧ w'.ownsRow w.heap.size 5 1 (.slice A' 44 c') 44 (r.bytes.flatMap encB) ∧ Below w.heap.size w w' := by
  have HL := Lib.hid (Rc.len h)
  have HO := Lib.hid h
  have hsz : r.cs.toArray.size = 35 := by simp [Rc.len h]
  go_enter Tryd.func35, Tryd.ntmps35
  go_wp2
  refine wp_name ?_
  intro w1 hw1
  have hb1 : RowKit.Below w.heap.size w w1 := by rw [hw1]; exact bal (Below.refl _ _) _
  have hB1 : Blk w1 w.heap.size 61 r.cs.toArray := by rw [hw1]; exact Blk.new _ _ _
  have hlt := hB1.lt
  clear hw1
  have u0 : IntKind.u32.wrap r.kind = cut32 r.kind := by rw [IntKind.wrap_u32']; rfl
  have u1 : IntKind.u32.wrap r.idx = cut32 r.idx := by rw [IntKind.wrap_u32']; rfl
  have u2 : IntKind.u32.wrap r.err = cut32 r.err := by rw [IntKind.wrap_u32']; rfl
  have HH := Lib.hid (show ∀ x ∈ r.head, 0 ≤ x ∧ x < 4294967296 by
    intro x hx
    simp only [Rc.head, List.mem_cons, List.not_mem_nil, or_false] at hx
    rcases hx with rfl | rfl | rfl <;> exact cut32_ok _)
  have HPB := Lib.hid (fun W A (h : Rd W W.heap.size 1 A 3 (r.head.flatMap encU32)) => putBe32_any none A 0 0 3 3 [] r.head W rfl rfl (by decide) (by decide) HH.out Rd.nil h)
  have c3 := three hB1
  obtain ⟨c0, c1, c2⟩ := c3
  go_region_held3 (fun w' => w'.cell? ⟨w.heap.size, 0, none⟩ = some (.int .i64 r.kind) ∧ w'.cell? ⟨w.heap.size, 1, none⟩ = some (.int .i64 r.idx) ∧ w'.cell? ⟨w.heap.size, 2, none⟩ = some (.int .i64 r.err)) (first | with_reducible exact ⟨c0, c1, c2⟩ | with_reducible exact three hB1.drew | with_reducible exact three (hB1.alloc _).drew | with_reducible exact three hB3 | with_reducible exact three (hB3.alloc _) | with_reducible exact three hB5)
    (first
      | (go_at_call 64; refine (HPB.out _ _ (Rd.drew (Rd.fresh w1 #[.int .u32 (cut32 r.kind), .int .u32 (cut32 r.idx), .int .u32 (cut32 r.err)] _ 3 1 _ rfl rfl))).mono ?_; rintro e w3 ⟨A3, x3, rfl, hown3, hb3⟩; have hB3 := Blk.kept (hB1.alloc _).drew hb3)
      | (go_at_call 63; refine (cat_any _ 2 2 [⟨A3, 12, x3, r.head.flatMap (bytesN 4 false)⟩, ⟨some ⟨w.heap.size, 3, none⟩, 32, 32, r.dig⟩] _ rfl (by decide) (Rd.fresh _ _ _ 2 1 _ rfl) (ptsOk HO.out hown3 hB3 _) (N := 44) (by have := Rc.bytes_len HO.out; simpa [catN, Rc.bytes] using this) (by decide)).mono ?_; rintro e w5 ⟨A5, x5, rfl, hown5, hb5⟩; have hB5 := (hB3.alloc _).kept hb5))
  go_wp2
  go_ret
  have hz3 : w.heap.size ≤ w3.heap.size := Nat.le_trans hb1.size (Nat.le_trans (by simp) hb3.size)
  have hb13 : RowKit.Below w.heap.size w w3 := (bal hb1 _).trans ((of_drew hb3).mono (by have := hb1.size; simp; omega))
  refine ⟨A5, x5, rfl, ?_, (bal hb13 _).trans (hb5.mono (by simp; omega))⟩
  have e : catN [⟨A3, 12, x3, r.head.flatMap (bytesN 4 false)⟩, ⟨some ⟨w.heap.size, 3, none⟩, 32, 32, r.dig⟩] = r.bytes := by simp [catN, Rc.bytes]
  rw [e] at hown5
  exact own_le_base hown5 (by simp; omega)

/-- The cells of a row of a slice that reads as rows of one length. -/
theorem Rd.range {α : Type} {enc : α → List Value} {w : World} {B s n : Nat} {A : Option Addr} {l : List α} (h : Rd w B s A n (l.flatMap enc)) (hs : ∀ x ∈ l, (enc x).length = s) {k : Nat} (hk : k < l.length) (hn : l.length = n) :
    ∃ b off, A = some ⟨b, off, none⟩ ∧ b < B ∧ w.rangeAt b (off + k * s) (enc l[k]) := by
  obtain ⟨b, off, e, hb, hc⟩ := h.cells (by omega)
  refine ⟨b, off, e, hb, fun j v hv => ?_⟩
  have hj : j < s := by
    have := (List.getElem?_eq_some_iff.1 hv).1
    rwa [hs _ (List.getElem_mem hk)] at this
  have h1 := hc (k * s + j) (by
    have h1 : (k + 1) * s ≤ n * s := Nat.mul_le_mul_right _ (by omega)
    rw [Nat.succ_mul] at h1
    omega)
  rw [show off + k * s + j = off + (k * s + j) by omega, h1]
  have key : ∀ (l : List α) (k j : Nat), (∀ g ∈ l, (enc g).length = s) → j < s → (hk : k < l.length) → (l.flatMap enc)[k * s + j]? = (enc l[k])[j]? := by
    intro l
    induction l with
    | nil => intro k j _ _ hk; simp at hk
    | cons x xs ih =>
      intro k j hx hj hk
      have hxl := hx x (List.mem_cons_self ..)
      cases k with
      | zero => simp only [List.flatMap_cons, Nat.zero_mul, Nat.zero_add, List.getElem_cons_zero]; rw [List.getElem?_append_left (by omega)]
      | succ k =>
        simp only [List.flatMap_cons, List.getElem_cons_succ]
        rw [List.getElem?_append_right (by rw [Nat.succ_mul]; omega), show (k + 1) * s + j - (enc x).length = k * s + j by rw [hxl, Nat.succ_mul]; omega]
        exact ih k j (fun y hy => hx y (List.mem_cons_of_mem _ hy)) hj (by simpa using hk)
  rw [key l k j hs hj hk]
  exact hv

def RcsOk (l : List Rc) : Prop := ∀ r ∈ l, RcOk r
theorem info_rec : (Tryd.prog.info? 61).map (·.size) = some 35 := by kernel_rfl
set_option maxHeartbeats 2000000 in
theorem measMay_any (r : Rc) (h : RcOk r) (w : World) :
    Calls Tryd.prog 70 #[.agg r.cs.toArray] w fun e w' => e = .returned (.bool r.may) ∧ Below w.heap.size w w' := by
  have hsz : r.cs.toArray.size = 35 := by simp [Rc.len h]
  have HB := Lib.hid (three (Blk.new w 61 r.cs.toArray))
  have hmy : r.may = decide (1 ≤ r.kind ∧ r.kind ≤ 3 ∧ 0 ≤ r.idx ∧ r.idx < 16 ∧ 0 ≤ r.err ∧ r.err ≤ 1000) := rfl
  obtain ⟨c0, c1, c2⟩ := HB.out
  have hcs : r.kind < 1 ∨ (¬ r.kind < 1 ∧ 3 < r.kind) ∨ (¬ r.kind < 1 ∧ ¬ 3 < r.kind ∧ r.idx < 0) ∨ (¬ r.kind < 1 ∧ ¬ 3 < r.kind ∧ ¬ r.idx < 0 ∧ ¬ r.idx < 16) ∨ (¬ r.kind < 1 ∧ ¬ 3 < r.kind ∧ ¬ r.idx < 0 ∧ r.idx < 16 ∧ r.err < 0) ∨ (¬ r.kind < 1 ∧ ¬ 3 < r.kind ∧ ¬ r.idx < 0 ∧ r.idx < 16 ∧ ¬ r.err < 0 ∧ ¬ r.err ≤ 1000) ∨ (¬ r.kind < 1 ∧ ¬ 3 < r.kind ∧ ¬ r.idx < 0 ∧ r.idx < 16 ∧ ¬ r.err < 0 ∧ r.err ≤ 1000) := by omega
  rcases hcs with a | ⟨a, b⟩ | ⟨a, b, c⟩ | ⟨a, b, c, d⟩ | ⟨a, b, c, d, e⟩ | ⟨a, b, c, d, e, f⟩ | ⟨a, b, c, d, e, f⟩
  case inr.inr.inr.inr.inr.inr =>
    rw [decide_eq_true (by omega)] at hmy
    rw [hmy]
    have a' : 1 ≤ r.kind := by omega
    have b' : r.kind ≤ 3 := by omega
    have c' : 0 ≤ r.idx := by omega
    have e' : 0 ≤ r.err := by omega
    clear hmy
    go_enter Tryd.func70, Tryd.ntmps70
    go_wp2
    go_ret
    exact ⟨rfl, bal (Below.refl _ _) _⟩
  all_goals
    rw [decide_eq_false (by omega)] at hmy
    rw [hmy]
    clear hmy
    go_enter Tryd.func70, Tryd.ntmps70
    go_wp2
    go_ret
    first | exact ⟨rfl, bal (Below.refl _ _) _⟩ | exact ⟨by simp; omega, bal (Below.refl _ _) _⟩

set_option maxHeartbeats 1000000 in
theorem putLog1_any (r : Rc) (h : RcOk r) (w : World) :
    Calls Tryd.prog 69 #[.agg r.cs.toArray] w fun e w' => e = .returned (.bool !r.may) ∧ Below w.heap.size w w' := by
  have hsz : r.cs.toArray.size = 35 := by simp [Rc.len h]
  have HL := Lib.hid (Rc.len h)
  have HM := Lib.hid (fun W => measMay_any r h W)
  have HR : Hid ((w.alloc (.cells r.cs.toArray 61)).rangeAt w.heap.size 0 r.cs) := Lib.hid fun j v hv => by
    rw [Nat.zero_add, (Blk.new w 61 r.cs.toArray).cell j]; simpa using hv
  generalize r.may = m at *
  clear h
  go_enter Tryd.func69, Tryd.ntmps69
  go_wp2_with (first
    | (refine wpList_load_mid rfl 61 (.tmp 1) rfl w.heap.size 0 (by rfl) r.cs _ HR.out Tryd.underlying61 rfl (by rw [HL.out]; kernel_rfl) ?_)
    | (go_at_call 70; refine (HM.out _).mono ?_; rintro e w1 ⟨rfl, hb1⟩))
  go_ret
  exact ⟨rfl, below_alloc hb1⟩

set_option maxHeartbeats 2000000 in
theorem rindex_any (A : Option Addr) (n c : Nat) (l : List Rc) (w : World) (hl : l.length = n) (hn : n ≤ 1000000) (h0 : RcsOk l) (hr : Rd w w.heap.size 35 A n (l.flatMap Rc.cs)) :
    Calls Tryd.prog 79 #[.slice A n c, .func (.func 69) #[] #[]] w fun e w' => (∃ x : Int, e = .returned (.int .i64 x) ∧ (decide (0 ≤ x) = !l.all Rc.may)) ∧ Below w.heap.size w w' := by
  have HL := Lib.hid hl
  have HR := Lib.hid hr
  have H0 := Lib.hid h0
  clear hl hr h0
  go_enter Tryd.func79, Tryd.ntmps79
  go_wp2
  go_loopw [5, 8] (fun _ i wr => ∃ k : Nat, k ≤ n ∧ i = .int .i64 k ∧ Hid ((l.take k).all Rc.may = true) ∧ Below w.heap.size w wr) (fun _ i _ => n - (intOf i).toNat)
  case atStart => exact ⟨0, by omega, rfl, Lib.hid rfl, Below.refl _ _⟩
  case round =>
    obtain ⟨k, hk, rfl, hall, hb⟩ := hrel
    by_cases hlt : k < n
    · have hlt' : k < l.length := by rw [HL.out]; exact hlt
      obtain ⟨b, o, rfl, hbb, hc⟩ := (HR.out.below hb).range (fun r hr => Rc.len (H0.out r hr)) hlt' HL.out
      have HRg := Lib.hid hc
      have HT := Lib.hid (List.take_succ_eq_append_getElem hlt')
      have HE := Lib.hid (List.getElem_mem hlt')
      have hok := H0.out _ (List.getElem_mem hlt')
      clear hc
      generalize l[k] = r at *
      have HLn := Lib.hid (Rc.len hok)
      have HP := Lib.hid (fun W => putLog1_any r hok W)
      cases hmay : r.may with
      | false =>
        have HNo : Hid (l.all Rc.may = false) := Lib.hid (by rw [List.all_eq_false]; exact ⟨r, HE.out, by simp [hmay]⟩)
        rw [hmay] at HP
        go_wp2_with (first
          | (refine wpList_load_mid rfl 61 (.tmp 14) rfl b (o + k * 35) (by rfl) r.cs _ HRg.out Tryd.underlying61 rfl (by rw [HLn.out]; kernel_rfl) ?_)
          | (go_at_call 69; refine (HP.out _).mono ?_; rintro e w3 ⟨rfl, hb3⟩))
        go_ret
        exact ⟨⟨k, rfl, by rw [HNo.out]; simp⟩, hb.trans (hb3.mono hb.size)⟩
      | true =>
        have HA : Hid ((l.take (k + 1)).all Rc.may = true) := Lib.hid (by rw [HT.out, List.all_append]; simp [hall.out, hmay])
        rw [hmay] at HP
        go_wp2_with (first
          | (refine wpList_load_mid rfl 61 (.tmp 14) rfl b (o + k * 35) (by rfl) r.cs _ HRg.out Tryd.underlying61 rfl (by rw [HLn.out]; kernel_rfl) ?_)
          | (go_at_call 69; refine (HP.out _).mono ?_; rintro e w3 ⟨rfl, hb3⟩))
        go_roundw
        case rel => exact ⟨k + 1, by omega, by go_num, HA.out, hb.trans (hb3.mono hb.size)⟩
        case measure => simp [intOf]; omega
    · obtain rfl : k = n := by omega
      rw [List.take_of_length_le (by rw [HL.out]; exact Nat.le_refl _)] at hall
      go_wp2
      go_ret
      exact ⟨⟨-1, rfl, by rw [hall.out]; rfl⟩, hb⟩
theorem rcontains_any (A : Option Addr) (n c : Nat) (l : List Rc) (w : World) (hl : l.length = n) (hn : n ≤ 1000000) (h0 : RcsOk l) (hr : Rd w w.heap.size 35 A n (l.flatMap Rc.cs)) :
    Calls Tryd.prog 68 #[.slice A n c, .func (.func 69) #[] #[]] w fun e w' => e = .returned (.bool (!l.all Rc.may)) ∧ Below w.heap.size w w' := by
  have HI := Lib.hid (rindex_any A n c l w hl hn h0 hr)
  generalize l.all Rc.may = m at *
  clear hl h0 hr
  go_enter Tryd.func68, Tryd.ntmps68
  go_wp2_with (go_at_call 79; refine HI.out.mono ?_; rintro e w1 ⟨⟨x, rfl, hx⟩, hb1⟩; have HX := Lib.hid hx; clear hx)
  go_ret
  exact ⟨by rw [← HX.out]; rfl, hb1⟩
end Go.Proofs.YtjcklmhkdpbbdaaDoor
namespace Go.Proofs.YtjcklmhkdpbbdaaDoor
set_option linter.unusedVariables false
open Go.RowKit Go.Sort

def lputOk (l : List Rc) : Bool := decide (l.length ≤ 64) && l.all Rc.may
def logBytes (l : List Rc) : List Int := bytesN 4 false l.length ++ l.flatMap Rc.bytes
theorem logBytes_len {l : List Rc} (h : RcsOk l) : (logBytes l).length = 4 + 44 * l.length := by
  unfold logBytes
  rw [List.length_append, bytesN_len]
  congr 1
  induction l with
  | nil => rfl
  | cons a l ih =>
    rw [List.flatMap_cons, List.length_append, Rc.bytes_len (h a (List.mem_cons_self ..)), ih (fun x hx => h x (List.mem_cons_of_mem _ hx))]
    simp only [List.length_cons]; omega
theorem rows_apart {w : World} {b0 b1 : Nat} {e e' : TypeId} {s s' n n' : Nat} {v v' : Value} {xs xs' : List Value} (h : w.ownsRow b0 e s v n xs) (h' : w.ownsRow b1 e' s' v' n' xs') (hne : e ≠ e') {k : Nat} (hk : v.ownBlock = some k) : v'.ownBlock ≠ some k := by
  intro hk'
  rcases h.2 with ⟨rfl, _⟩ | ⟨g, c, cur, rfl, _, hh, _⟩
  · simp [Value.ownBlock] at hk
  · rcases h'.2 with ⟨rfl, _⟩ | ⟨g', c', cur', rfl, _, hh', _⟩
    · simp [Value.ownBlock] at hk'
    · simp [Value.ownBlock] at hk hk'
      subst hk hk'
      rw [hh] at hh'
      injection hh' with hh'
      injection hh' with _ ht
      exact hne ht
/-- A part of the call's own. -/
def PtOwn (w : World) (p : Pt) : Prop := p.bs.length = p.n ∧ w.ownsRow 0 5 1 (.slice p.A p.n p.c) p.n (p.bs.flatMap encB)
theorem PtOwn.ok {w : World} {p : Pt} (h : PtOwn w p) : PtOk w w.heap.size p := ⟨h.1, Rd.of_own h.2⟩
theorem PtOwn.kept {w w' : World} {p : Pt} (h : PtOwn w p) (hb : Below w.heap.size w w') : PtOwn w' p := ⟨h.1, own_kept h.2 hb⟩
theorem PtOwn.grown {w w' : World} {p : Pt} (h : PtOwn w p) {b s n : Nat} {v : Value} {xs : List Value} (ho : w.ownsRow b 29 s v n xs) (hg : w.grownBy w' v.ownBlock) : PtOwn w' p :=
  ⟨h.1, own_same h.2 fun k hk => hg.block k (own_lt h.2 hk).2 (fun e => rows_apart h.2 ho (by decide) hk e.symm)⟩

def zRc : Array Value := #[.int .i64 0, .int .i64 0, .int .i64 0] ++ Array.replicate 32 (.int .u8 0)
theorem info_recz : (Tryd.prog.info? 61).map (fun i => (i.zero, i.size)) = some (some (.agg zRc), 35) := by kernel_rfl
theorem zero_rec : ∃ Z : Array Value, Z.size = 35 ∧ (∀ w, (zeroValue 61).run Tryd.prog w = .ok (.agg Z) w) ∧ (Tryd.prog.info? 61).map (·.size) = some 35 :=
  ⟨zRc, by decide +kernel, (zero_of_info info_recz).1, (zero_of_info info_recz).2⟩
theorem store_rec {Z : Array Value} (hZ : Z.size = 35) (hi : (Tryd.prog.info? 61).map (·.size) = some 35) {cs : List Value} (hl : cs.length = 35) (h1 : ∀ u ∈ cs, u.oneCell' = true) (w : World) :
    (storeCells ⟨w.heap.size, 0, none⟩ cs 0).run Tryd.prog (w.alloc (.cells Z 61)) = .ok () (w.alloc (.cells cs.toArray 61)) := by
  have := run_storeCells_new (P := Tryd.prog) w 61 Z cs.toArray (by simpa [hl] using hi) (by simp [hl, hZ]) (all_oneCell_toArray h1)
  simpa using this
/-- A log as bytes, or refused. -/
def LputRes (l : List Rc) (n : Nat) (w : World) (e : Ending) (w' : World) : Prop :=
  (lputOk l = true ∧ (∃ A' c', e = .returned (.tuple #[.slice A' (4 + 44 * n) c', .int .i64 0]) ∧ w'.ownsRow w.heap.size 5 1 (.slice A' (4 + 44 * n) c') (4 + 44 * n) ((logBytes l).flatMap encB)) ∨ lputOk l = false ∧ e = .returned (.tuple #[.slice none 0 0, .int .i64 250])) ∧ Below w.heap.size w w'

set_option maxRecDepth 100000 in
set_option maxHeartbeats 4000000 in
theorem putLog_any (A : Option Addr) (n c : Nat) (l : List Rc) (w : World) (hl : l.length = n) (hn : n ≤ 100000) (h0 : RcsOk l) (hr : Rd w w.heap.size 35 A n (l.flatMap Rc.cs)) :
    Calls Tryd.prog 47 #[.slice A n c] w (LputRes l n w) := by
  have HL := Lib.hid hl
  have HR := Lib.hid hr
  have H0 := Lib.hid h0
  have HLen := Lib.hid (logBytes_len h0)
  have HC := Lib.hid (rcontains_any A n c l w hl (by omega) h0 hr)
  clear hl hr h0
  by_cases h64 : n ≤ 64
  · cases hm : l.all Rc.may with
    | false =>
      have HNo := Lib.hid (show lputOk l = false by unfold lputOk; rw [hm]; simp)
      rw [hm] at HC
      clear hm
      go_enter Tryd.func47, Tryd.ntmps47
      go_wp2_with (go_at_call 68; refine HC.out.mono ?_; rintro e w1 ⟨rfl, hb1⟩)
      go_ret2
      exact ⟨.inr ⟨HNo.out, rfl⟩, hb1⟩
    | true =>
      have HYes := Lib.hid (show lputOk l = true by unfold lputOk; rw [hm, HL.out]; simpa using h64)
      rw [hm] at HC
      clear hm
      have HPB := Lib.hid (fun W A (h : Rd W W.heap.size 1 A 1 ([(n : Int)].flatMap encU32)) => putBe32_any none A 0 0 1 1 [] [(n : Int)] W rfl rfl (by decide) (by decide) (by intro x hx; simp at hx; subst hx; omega) Rd.nil h)
      have u0 : IntKind.u32.wrap (n : Int) = (n : Int) := by rw [IntKind.wrap_u32']; omega
      go_enter Tryd.func47, Tryd.ntmps47
      go_wp2_with (first
        | (go_at_call 68; refine HC.out.mono ?_; rintro e w1 ⟨rfl, hb1⟩)
        | (go_at_call 64; refine (HPB.out _ _ (Rd.fresh _ _ _ 1 1 _ rfl)).mono ?_; rintro e w2 ⟨A2, x2, rfl, hown2, hb2⟩))
      have hb12 := hb1.trans ((below_alloc hb2).mono hb1.size)
      have hz2 : w.heap.size ≤ w2.heap.size := hb12.size
      have hP0 : PtOwn w2 ⟨A2, 4, x2, bytesN 4 false n⟩ := ⟨bytesN_len _ _ _, own_le_base (by simpa using hown2) (Nat.zero_le _)⟩
      have HP0 := Lib.hid (hP0.kept (bal (Below.refl w2.heap.size w2) (.cells #[.slice A2 4 x2] 29)))
      have HO0 := Lib.hid (show (w2.alloc (.cells #[.slice A2 4 x2] 29)).ownsRow w.heap.size 29 1 (.slice (some ⟨w2.heap.size, 0, none⟩) 1 1) 1 [.slice A2 4 x2] from
        ⟨rfl, .inr ⟨w2.heap.size, 1, #[.slice A2 4 x2], rfl, hz2, heap_alloc_new w2 _, Nat.le_refl _, by unfold maxLen; omega, rfl, rfl⟩⟩)
      have HB0 := Lib.hid (bal hb12 (.cells #[.slice A2 4 x2] 29))
      clear hP0 hown2 hb2 hb1 hb12
      go_loopw [4, 22] (fun v i wr => ∃ k : Nat, k ≤ n ∧ i = .int .i64 k ∧ ∃ (A' : Option Addr) (c' : Nat) (PP : List Pt), v = .slice A' (k + 1) c' ∧ wr.ownsRow w.heap.size 29 1 (.slice A' (k + 1) c') (k + 1) (PP.flatMap encPt) ∧ Hid (PP.map (·.bs) = bytesN 4 false n :: (l.take k).map Rc.bytes) ∧ Hid (∀ p ∈ PP, PtOwn wr p) ∧ Below w.heap.size w wr) (fun _ i _ => n - (intOf i).toNat)
      case atStart => exact ⟨0, by omega, rfl, _, _, [⟨A2, 4, x2, bytesN 4 false n⟩], rfl, HO0.out, Lib.hid rfl, Lib.hid (fun p hp => by simp at hp; subst hp; exact HP0.out), HB0.out⟩
      case round =>
        obtain ⟨k, hk, rfl, A', c', PP, rfl, ho, hpp, hown, hb⟩ := hrel
        clear HO0 HP0 HB0
        by_cases hlt : k < n
        · have hlt' : k < l.length := by rw [HL.out]; exact hlt
          obtain ⟨b, o, rfl, hbb, hc⟩ := (HR.out.below hb).range (fun r hr => Rc.len (H0.out r hr)) hlt' HL.out
          have HRg := Lib.hid hc
          have HT := Lib.hid (List.take_succ_eq_append_getElem hlt')
          have hok := H0.out _ (List.getElem_mem hlt')
          have hB := hb.size
          clear hc
          generalize l[k] = r at *
          have HLn := Lib.hid (Rc.len hok)
          have hsz : r.cs.toArray.size = 35 := by simp [Rc.len hok]
          have HM := Lib.hid (fun W => measPut_any r hok W)
          have HRb : Hid ((wr.alloc (.cells r.cs.toArray 61)).rangeAt wr.heap.size 0 r.cs) := Lib.hid fun j v hv => by
            rw [Nat.zero_add, (Blk.new wr 61 r.cs.toArray).cell j]; simpa using hv
          have HMx := Lib.hid (show k + 1 + 1 ≤ maxLen by unfold maxLen; omega)
          have HMy := Lib.hid (show (k + 1 + 1) * 24 ≤ 140737488355328 by omega)
          obtain ⟨Z, hZ, hz0, hZi⟩ := zero_rec
          have hst := store_rec hZ hZi HLn.out (Rc.one r)
          clear hZi
          go_wp2_with (first
            | (refine wpList_load_mid rfl 61 (.tmp 24) rfl b (o + k * 35) (by rfl) r.cs _ HRg.out Tryd.underlying61 rfl (by rw [HLn.out]; kernel_rfl) ?_)
            | (refine wpList_load_mid rfl 61 (.tmp 6) rfl wr.heap.size 0 (by rfl) r.cs _ HRb.out Tryd.underlying61 rfl (by rw [HLn.out]; kernel_rfl) ?_)
            | (go_at_call 35; refine (HM.out _).mono ?_; rintro e w3 ⟨A3, x3, rfl, hown3, hb3⟩; have hb4 := hb.trans ((below_alloc hb3).mono hB); have ho3 := own_kept (ho.alloc _) hb3; have hz3 := hb4.size)
            | (at_builtin; refine wpList_app sl_elem rfl (.tmp 26) (.tmp 29) rfl w.heap.size (ho3.alloc _) rfl rfl (Rd.fresh _ _ _ 1 1 _ rfl) (by simp [Value.oneCell']) HMx.out HMy.out (by simp; omega) ?_; intro v5 w5 hown5 hb5 hgr; obtain ⟨A5, c5, rfl, _, _⟩ := own_slice hown5))
          go_roundw
          case rel =>
            refine ⟨k + 1, by omega, by go_num, A5, c5, PP ++ [⟨A3, 44, x3, r.bytes⟩], rfl, ?_, Lib.hid ?_, Lib.hid fun p hp => ?_, (bal' hb4 _ hz3).trans hb5⟩
            · rw [List.flatMap_append]; exact hown5
            · rw [List.map_append, hpp.out, HT.out, List.map_append]; rfl
            · rcases List.mem_append.1 hp with hp | hp
              · exact ((((hown.out p hp).kept (bal (Below.refl _ _) _)).kept hb3).kept (bal (Below.refl _ _) _)).grown (ho3.alloc _) hgr
              · simp only [List.mem_cons, List.not_mem_nil, or_false] at hp
                subst hp
                exact (PtOwn.kept (p := ⟨A3, 44, x3, r.bytes⟩) ⟨Rc.bytes_len hok, own_le_base hown3 (Nat.zero_le _)⟩ (bal (Below.refl _ _) _)).grown (ho3.alloc _) hgr
          case measure => simp [intOf]; omega
        · obtain rfl : k = n := by omega
          have hpp' := hpp.out
          rw [List.take_of_length_le (by rw [HL.out]; exact Nat.le_refl _)] at hpp'
          have hPL : PP.length = k + 1 := by
            have := congrArg List.length hpp'
            simpa [HL.out] using this
          have hcat : catN PP = logBytes l := by
            have : catN PP = (PP.map (·.bs)).flatten := by unfold catN; rw [List.flatMap_def]
            rw [this, hpp', List.flatten_cons, ← List.flatMap_def]
            unfold logBytes
            rw [HL.out]
          have HCat := Lib.hid (cat_any A' (k + 1) c' PP wr hPL (by omega) (Rd.of_own ho) (fun p hp => (hown.out p hp).ok) (N := 4 + 44 * k) (by rw [hcat, HLen.out, HL.out]) (by omega))
          rw [hcat] at HCat
          clear hpp' hPL hcat
          go_wp2_with (go_at_call 63; refine HCat.out.mono ?_; rintro e w5 ⟨A5, x5, rfl, hown5, hb5⟩)
          go_ret2
          exact ⟨.inl ⟨HYes.out, A5, x5, rfl, own_le_base hown5 hb.size⟩, hb.trans (hb5.mono hb.size)⟩
  · have HNo := Lib.hid (show lputOk l = false by unfold lputOk; rw [HL.out, decide_eq_false h64]; rfl)
    have h64' : 64 < n := by omega
    clear h64
    go_enter Tryd.func47, Tryd.ntmps47
    go_wp2
    go_ret2
    exact ⟨.inr ⟨HNo.out, rfl⟩, Below.refl _ _⟩
end Go.Proofs.YtjcklmhkdpbbdaaDoor
