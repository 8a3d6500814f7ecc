/- Chapter 25: records, put as bytes. -/
import Derived.Test.YtjjbpiejplfbpaaPolA
import Derived.Test.YtjjbpiejplfbpaaEqFlat
import Derived.Deep.RegionHeld3
namespace Go.Proofs.Ytjjbpiejplfbpaa
set_option linter.unusedVariables false
open Go.RowKit Go.Sort

/-- A record: its kind, index, error; its digest. -/
structure Rc where
  kind : Int
  idx : Int
  err : Int
  dig : List Int
def Rc.cs (r : Rc) : List Value := .int .i64 r.kind :: .int .i64 r.idx :: .int .i64 r.err :: r.dig.flatMap encB
structure RcOk (r : Rc) : Prop where
  len : r.dig.length = 32
  ok : BytesOk r.dig
theorem Rc.len {r : Rc} (h : RcOk r) : r.cs.length = 35 := by
  unfold Rc.cs
  have := flatB_len r.dig
  rw [h.len] at this
  simp [this]
theorem Rc.one (r : Rc) : ∀ u ∈ r.cs, u.oneCell' = true := by
  intro u hu
  unfold Rc.cs at hu
  simp only [List.mem_cons] at hu
  rcases hu with rfl | rfl | rfl | hu
  · rfl
  · rfl
  · rfl
  · exact one_b _ u hu
def Rc.may (r : Rc) : Bool := decide (1 ≤ r.kind ∧ r.kind ≤ 3 ∧ 0 ≤ r.idx ∧ r.idx < 16 ∧ 0 ≤ r.err ∧ r.err ≤ 1000)
/-- A number of any size, cut to four bytes. -/
def cut32 (x : Int) : Int := x % 4294967296
def Rc.head (r : Rc) : List Int := [cut32 r.kind, cut32 r.idx, cut32 r.err]
def Rc.bytes (r : Rc) : List Int := r.head.flatMap (bytesN 4 false) ++ r.dig
theorem cut32_ok (x : Int) : 0 ≤ cut32 x ∧ cut32 x < 4294967296 := by unfold cut32; omega
theorem Rc.bytes_len {r : Rc} (h : RcOk r) : r.bytes.length = 44 := by
  unfold Rc.bytes Rc.head
  simp [bytesN_len, h.len]

theorem digRd {w : World} {g : Nat} {t : TypeId} {r : Rc} (hr : RcOk r) (h : Blk w g t r.cs.toArray) : Rd w w.heap.size 1 (some ⟨g, 3, none⟩) 32 (r.dig.flatMap encB) := by
  refine ⟨by rw [flatB_len, hr.len], fun _ => ⟨g, 3, rfl, h.lt, fun j u hu => ?_⟩⟩
  rw [h.cell (3 + j)]
  have e : r.cs.toArray[3 + j]? = (r.dig.flatMap encB)[j]? := by
    rw [Nat.add_comm]
    simp [Rc.cs]
  rw [e]; exact hu
theorem ptsOk {w : World} {g : Nat} {t : TypeId} {r : Rc} (hr : RcOk r) {A : Option Addr} {c b : Nat} (ho : w.ownsRow b 5 1 (.slice A 12 c) 12 ((r.head.flatMap (bytesN 4 false)).flatMap encB)) (h : Blk w g t r.cs.toArray) (o : Obj) :
    ∀ p ∈ ([⟨A, 12, c, r.head.flatMap (bytesN 4 false)⟩, ⟨some ⟨g, 3, none⟩, 32, 32, r.dig⟩] : List Pt), PtOk (w.alloc o) (w.alloc o).heap.size p := by
  intro p hp
  simp only [List.mem_cons, List.not_mem_nil, or_false] at hp
  rcases hp with rfl | rfl
  · exact ⟨by simp [Rc.head, bytesN_len], ((Rd.of_own ho).alloc (Nat.le_refl _) o).more (by simp)⟩
  · exact ⟨hr.len, ((digRd hr h).alloc (Nat.le_refl _) o).more (by simp)⟩
theorem three {w : World} {g : Nat} {t : TypeId} {r : Rc} (h : Blk w g t r.cs.toArray) : w.cell? ⟨g, 0, none⟩ = some (.int .i64 r.kind) ∧ w.cell? ⟨g, 1, none⟩ = some (.int .i64 r.idx) ∧ w.cell? ⟨g, 2, none⟩ = some (.int .i64 r.err) := by
  refine ⟨?_, ?_, ?_⟩
  · rw [h.cell 0]; simp [Rc.cs]
  · rw [h.cell 1]; simp [Rc.cs]
  · rw [h.cell 2]; simp [Rc.cs]
set_option maxRecDepth 100000 in
set_option maxHeartbeats 2000000 in
theorem measPut_any (r : Rc) (h : RcOk r) (w : World) :
    Calls Try.prog 39 #[.agg r.cs.toArray] w fun e w' => ∃ A' c', e = .returned (.slice A' 44 c') ∧ w'.ownsRow w.heap.size 5 1 (.slice A' 44 c') 44 (r.bytes.flatMap encB) ∧ Below w.heap.size w w' := by
  have HL := Lib.hid (Rc.len h)
  have HO := Lib.hid h
  have hsz : r.cs.toArray.size = 35 := by simp [Rc.len h]
  go_enter Try.func39, Try.ntmps39
  go_wp2
  refine wp_name ?_
  intro w1 hw1
  have hb1 : RowKit.Below w.heap.size w w1 := by rw [hw1]; exact bal (Below.refl _ _) _
  have hB1 : Blk w1 w.heap.size 69 r.cs.toArray := by rw [hw1]; exact Blk.new _ _ _
  have hlt := hB1.lt
  clear hw1
  have u0 : IntKind.u32.wrap r.kind = cut32 r.kind := by rw [IntKind.wrap_u32']; rfl
  have u1 : IntKind.u32.wrap r.idx = cut32 r.idx := by rw [IntKind.wrap_u32']; rfl
  have u2 : IntKind.u32.wrap r.err = cut32 r.err := by rw [IntKind.wrap_u32']; rfl
  have HH := Lib.hid (show ∀ x ∈ r.head, 0 ≤ x ∧ x < 4294967296 by
    intro x hx
    simp only [Rc.head, List.mem_cons, List.not_mem_nil, or_false] at hx
    rcases hx with rfl | rfl | rfl <;> exact cut32_ok _)
  have HPB := Lib.hid (fun W A (h : Rd W W.heap.size 1 A 3 (r.head.flatMap encU32)) => putBe32_any none A 0 0 3 3 [] r.head W rfl rfl (by decide) (by decide) HH.out Rd.nil h)
  have c3 := three hB1
  obtain ⟨c0, c1, c2⟩ := c3
  go_region_held3 (fun w' => w'.cell? ⟨w.heap.size, 0, none⟩ = some (.int .i64 r.kind) ∧ w'.cell? ⟨w.heap.size, 1, none⟩ = some (.int .i64 r.idx) ∧ w'.cell? ⟨w.heap.size, 2, none⟩ = some (.int .i64 r.err)) (first | with_reducible exact ⟨c0, c1, c2⟩ | with_reducible exact three hB1.drew | with_reducible exact three (hB1.alloc _).drew | with_reducible exact three hB3 | with_reducible exact three (hB3.alloc _) | with_reducible exact three hB5)
    (first
      | (go_at_call 38; refine (HPB.out _ _ (Rd.drew (Rd.fresh w1 #[.int .u32 (cut32 r.kind), .int .u32 (cut32 r.idx), .int .u32 (cut32 r.err)] _ 3 1 _ rfl rfl))).mono ?_; rintro e w3 ⟨A3, x3, rfl, hown3, hb3⟩; have hB3 := Blk.kept (hB1.alloc _).drew hb3)
      | (go_at_call 40; refine (cat_any _ 2 2 [⟨A3, 12, x3, r.head.flatMap (bytesN 4 false)⟩, ⟨some ⟨w.heap.size, 3, none⟩, 32, 32, r.dig⟩] _ rfl (by decide) (Rd.fresh _ _ _ 2 1 _ rfl) (ptsOk HO.out hown3 hB3 _) (N := 44) (by have := Rc.bytes_len HO.out; simpa [catN, Rc.bytes] using this) (by decide)).mono ?_; rintro e w5 ⟨A5, x5, rfl, hown5, hb5⟩; have hB5 := (hB3.alloc _).kept hb5))
  go_wp2
  go_ret
  have hz3 : w.heap.size ≤ w3.heap.size := Nat.le_trans hb1.size (Nat.le_trans (by simp) hb3.size)
  have hb13 : RowKit.Below w.heap.size w w3 := (bal hb1 _).trans ((of_drew hb3).mono (by have := hb1.size; simp; omega))
  refine ⟨A5, x5, rfl, ?_, (bal hb13 _).trans (hb5.mono (by simp; omega))⟩
  have e : catN [⟨A3, 12, x3, r.head.flatMap (bytesN 4 false)⟩, ⟨some ⟨w.heap.size, 3, none⟩, 32, 32, r.dig⟩] = r.bytes := by simp [catN, Rc.bytes]
  rw [e] at hown5
  exact own_le_base hown5 (by simp; omega)

/-- The cells of a row of a slice that reads as rows of one length. -/
theorem Rd.range {α : Type} {enc : α → List Value} {w : World} {B s n : Nat} {A : Option Addr} {l : List α} (h : Rd w B s A n (l.flatMap enc)) (hs : ∀ x ∈ l, (enc x).length = s) {k : Nat} (hk : k < l.length) (hn : l.length = n) :
    ∃ b off, A = some ⟨b, off, none⟩ ∧ b < B ∧ w.rangeAt b (off + k * s) (enc l[k]) := by
  obtain ⟨b, off, e, hb, hc⟩ := h.cells (by omega)
  refine ⟨b, off, e, hb, fun j v hv => ?_⟩
  have hj : j < s := by
    have := (List.getElem?_eq_some_iff.1 hv).1
    rwa [hs _ (List.getElem_mem hk)] at this
  have h1 := hc (k * s + j) (by
    have h1 : (k + 1) * s ≤ n * s := Nat.mul_le_mul_right _ (by omega)
    rw [Nat.succ_mul] at h1
    omega)
  rw [show off + k * s + j = off + (k * s + j) by omega, h1]
  have key : ∀ (l : List α) (k j : Nat), (∀ g ∈ l, (enc g).length = s) → j < s → (hk : k < l.length) → (l.flatMap enc)[k * s + j]? = (enc l[k])[j]? := by
    intro l
    induction l with
    | nil => intro k j _ _ hk; simp at hk
    | cons x xs ih =>
      intro k j hx hj hk
      have hxl := hx x (List.mem_cons_self ..)
      cases k with
      | zero => simp only [List.flatMap_cons, Nat.zero_mul, Nat.zero_add, List.getElem_cons_zero]; rw [List.getElem?_append_left (by omega)]
      | succ k =>
        simp only [List.flatMap_cons, List.getElem_cons_succ]
        rw [List.getElem?_append_right (by rw [Nat.succ_mul]; omega), show (k + 1) * s + j - (enc x).length = k * s + j by rw [hxl, Nat.succ_mul]; omega]
        exact ih k j (fun y hy => hx y (List.mem_cons_of_mem _ hy)) hj (by simpa using hk)
  rw [key l k j hs hj hk]
  exact hv

def RcsOk (l : List Rc) : Prop := ∀ r ∈ l, RcOk r
theorem info_rec : (Try.prog.info? 69).map (·.size) = some 35 := by kernel_rfl
set_option maxHeartbeats 2000000 in
theorem measMay_any (r : Rc) (h : RcOk r) (w : World) :
    Calls Try.prog 37 #[.agg r.cs.toArray] w fun e w' => e = .returned (.bool r.may) ∧ Below w.heap.size w w' := by
  have hsz : r.cs.toArray.size = 35 := by simp [Rc.len h]
  have HB := Lib.hid (three (Blk.new w 69 r.cs.toArray))
  have hmy : r.may = decide (1 ≤ r.kind ∧ r.kind ≤ 3 ∧ 0 ≤ r.idx ∧ r.idx < 16 ∧ 0 ≤ r.err ∧ r.err ≤ 1000) := rfl
  obtain ⟨c0, c1, c2⟩ := HB.out
  have hcs : r.kind < 1 ∨ (¬ r.kind < 1 ∧ 3 < r.kind) ∨ (¬ r.kind < 1 ∧ ¬ 3 < r.kind ∧ r.idx < 0) ∨ (¬ r.kind < 1 ∧ ¬ 3 < r.kind ∧ ¬ r.idx < 0 ∧ ¬ r.idx < 16) ∨ (¬ r.kind < 1 ∧ ¬ 3 < r.kind ∧ ¬ r.idx < 0 ∧ r.idx < 16 ∧ r.err < 0) ∨ (¬ r.kind < 1 ∧ ¬ 3 < r.kind ∧ ¬ r.idx < 0 ∧ r.idx < 16 ∧ ¬ r.err < 0 ∧ ¬ r.err ≤ 1000) ∨ (¬ r.kind < 1 ∧ ¬ 3 < r.kind ∧ ¬ r.idx < 0 ∧ r.idx < 16 ∧ ¬ r.err < 0 ∧ r.err ≤ 1000) := by omega
  rcases hcs with a | ⟨a, b⟩ | ⟨a, b, c⟩ | ⟨a, b, c, d⟩ | ⟨a, b, c, d, e⟩ | ⟨a, b, c, d, e, f⟩ | ⟨a, b, c, d, e, f⟩
  case inr.inr.inr.inr.inr.inr =>
    rw [decide_eq_true (by omega)] at hmy
    rw [hmy]
    have a' : 1 ≤ r.kind := by omega
    have b' : r.kind ≤ 3 := by omega
    have c' : 0 ≤ r.idx := by omega
    have e' : 0 ≤ r.err := by omega
    clear hmy
    go_enter Try.func37, Try.ntmps37
    go_wp2
    go_ret
    exact ⟨rfl, bal (Below.refl _ _) _⟩
  all_goals
    rw [decide_eq_false (by omega)] at hmy
    rw [hmy]
    clear hmy
    go_enter Try.func37, Try.ntmps37
    go_wp2
    go_ret
    first | exact ⟨rfl, bal (Below.refl _ _) _⟩ | exact ⟨by simp; omega, bal (Below.refl _ _) _⟩

set_option maxHeartbeats 1000000 in
theorem putLog1_any (r : Rc) (h : RcOk r) (w : World) :
    Calls Try.prog 36 #[.agg r.cs.toArray] w fun e w' => e = .returned (.bool !r.may) ∧ Below w.heap.size w w' := by
  have hsz : r.cs.toArray.size = 35 := by simp [Rc.len h]
  have HL := Lib.hid (Rc.len h)
  have HM := Lib.hid (fun W => measMay_any r h W)
  have HR : Hid ((w.alloc (.cells r.cs.toArray 69)).rangeAt w.heap.size 0 r.cs) := Lib.hid fun j v hv => by
    rw [Nat.zero_add, (Blk.new w 69 r.cs.toArray).cell j]; simpa using hv
  generalize r.may = m at *
  clear h
  go_enter Try.func36, Try.ntmps36
  go_wp2_with (first
    | (refine wpList_load_mid rfl 69 (.tmp 1) rfl w.heap.size 0 (by rfl) r.cs _ HR.out Try.underlying69 rfl (by rw [HL.out]; kernel_rfl) ?_)
    | (go_at_call 37; refine (HM.out _).mono ?_; rintro e w1 ⟨rfl, hb1⟩))
  go_ret
  exact ⟨rfl, below_alloc hb1⟩

set_option maxHeartbeats 2000000 in
theorem rindex_any (A : Option Addr) (n c : Nat) (l : List Rc) (w : World) (hl : l.length = n) (hn : n ≤ 1000000) (h0 : RcsOk l) (hr : Rd w w.heap.size 35 A n (l.flatMap Rc.cs)) :
    Calls Try.prog 46 #[.slice A n c, .func (.func 36) #[] #[]] w fun e w' => (∃ x : Int, e = .returned (.int .i64 x) ∧ (decide (0 ≤ x) = !l.all Rc.may)) ∧ Below w.heap.size w w' := by
  have HL := Lib.hid hl
  have HR := Lib.hid hr
  have H0 := Lib.hid h0
  clear hl hr h0
  go_enter Try.func46, Try.ntmps46
  go_wp2
  go_loopw [5, 8] (fun _ i wr => ∃ k : Nat, k ≤ n ∧ i = .int .i64 k ∧ Hid ((l.take k).all Rc.may = true) ∧ Below w.heap.size w wr) (fun _ i _ => n - (intOf i).toNat)
  case atStart => exact ⟨0, by omega, rfl, Lib.hid rfl, Below.refl _ _⟩
  case round =>
    obtain ⟨k, hk, rfl, hall, hb⟩ := hrel
    by_cases hlt : k < n
    · have hlt' : k < l.length := by rw [HL.out]; exact hlt
      obtain ⟨b, o, rfl, hbb, hc⟩ := (HR.out.below hb).range (fun r hr => Rc.len (H0.out r hr)) hlt' HL.out
      have HRg := Lib.hid hc
      have HT := Lib.hid (List.take_succ_eq_append_getElem hlt')
      have HE := Lib.hid (List.getElem_mem hlt')
      have hok := H0.out _ (List.getElem_mem hlt')
      clear hc
      generalize l[k] = r at *
      have HLn := Lib.hid (Rc.len hok)
      have HP := Lib.hid (fun W => putLog1_any r hok W)
      cases hmay : r.may with
      | false =>
        have HNo : Hid (l.all Rc.may = false) := Lib.hid (by rw [List.all_eq_false]; exact ⟨r, HE.out, by simp [hmay]⟩)
        rw [hmay] at HP
        go_wp2_with (first
          | (refine wpList_load_mid rfl 69 (.tmp 14) rfl b (o + k * 35) (by rfl) r.cs _ HRg.out Try.underlying69 rfl (by rw [HLn.out]; kernel_rfl) ?_)
          | (go_at_call 36; refine (HP.out _).mono ?_; rintro e w3 ⟨rfl, hb3⟩))
        go_ret
        exact ⟨⟨k, rfl, by rw [HNo.out]; simp⟩, hb.trans (hb3.mono hb.size)⟩
      | true =>
        have HA : Hid ((l.take (k + 1)).all Rc.may = true) := Lib.hid (by rw [HT.out, List.all_append]; simp [hall.out, hmay])
        rw [hmay] at HP
        go_wp2_with (first
          | (refine wpList_load_mid rfl 69 (.tmp 14) rfl b (o + k * 35) (by rfl) r.cs _ HRg.out Try.underlying69 rfl (by rw [HLn.out]; kernel_rfl) ?_)
          | (go_at_call 36; refine (HP.out _).mono ?_; rintro e w3 ⟨rfl, hb3⟩))
        go_roundw
        case rel => exact ⟨k + 1, by omega, by go_num, HA.out, hb.trans (hb3.mono hb.size)⟩
        case measure => simp [intOf]; omega
    · obtain rfl : k = n := by omega
      rw [List.take_of_length_le (by rw [HL.out]; exact Nat.le_refl _)] at hall
      go_wp2
      go_ret
      exact ⟨⟨-1, rfl, by rw [hall.out]; rfl⟩, hb⟩
theorem rcontains_any (A : Option Addr) (n c : Nat) (l : List Rc) (w : World) (hl : l.length = n) (hn : n ≤ 1000000) (h0 : RcsOk l) (hr : Rd w w.heap.size 35 A n (l.flatMap Rc.cs)) :
    Calls Try.prog 35 #[.slice A n c, .func (.func 36) #[] #[]] w fun e w' => e = .returned (.bool (!l.all Rc.may)) ∧ Below w.heap.size w w' := by
  have HI := Lib.hid (rindex_any A n c l w hl hn h0 hr)
  generalize l.all Rc.may = m at *
  clear hl h0 hr
  go_enter Try.func35, Try.ntmps35
  go_wp2_with (go_at_call 46; refine HI.out.mono ?_; rintro e w1 ⟨⟨x, rfl, hx⟩, hb1⟩; have HX := Lib.hid hx; clear hx)
  go_ret
  exact ⟨by rw [← HX.out]; rfl, hb1⟩
end Go.Proofs.Ytjjbpiejplfbpaa
