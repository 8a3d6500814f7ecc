/- Chapter 23, the document's stream table: entries put. -/
import Derived.Test.YtklbdjbichfajaaSmmuC
import Derived.Test.YtklbdjbichfajaaRefW
import Derived.Deep.RegionHeld3
namespace Go.Proofs.Ytklbdjbichfajaa
set_option linter.unusedVariables false
open Go.RowKit Go.Sort

/-- Entries as bytes, or refused. -/
def SputRes (l : List Ste) (n : Nat) (w : World) (e : Ending) (w' : World) : Prop :=
  (sputOk l = true ∧ (∃ A' c', e = .returned (.tuple #[.slice A' (16 * n) c', .int .i64 0]) ∧ w'.ownsRow w.heap.size 5 1 (.slice A' (16 * n) c') (16 * n) ((steBytes l).flatMap encB)) ∨ sputOk l = false ∧ e = .returned (.tuple #[.slice none 0 0, .int .i64 230])) ∧ Below w.heap.size w w'
theorem sput_res (A : Option Addr) (n c : Nat) (l : List Ste) (w : World) (hl : l.length = n) (hn : n ≤ 1000000) (h0 : ∀ s ∈ l, 0 ≤ s.root ∧ s.root < 18446744073709551616) (hr : Rd w w.heap.size 3 A n (l.flatMap encS)) :
    Calls Try.prog 42 #[.slice A n c] w (SputRes l n w) := by
  cases h : sputOk l with
  | true => exact (sput_yes A n c l w hl h0 hr h).mono fun e w' ⟨A', c', he, ho, hb⟩ => ⟨.inl ⟨h, A', c', he, ho⟩, hb⟩
  | false => exact (sput_no A n c l w hl hn (fun s hs => (h0 s hs).1) hr h).mono fun e w' ⟨he, hb⟩ => ⟨.inr ⟨h, he⟩, hb⟩
theorem steBytes_snoc (l : List Ste) (s : Ste) : steBytes (l ++ [s]) = steBytes l ++ bytesOf true s.first ++ bytesOf true s.root := by simp [steBytes, Ste.words]

theorem refPut8 (A : Option Addr) (n c : Nat) (bs : List Int) (x : Int) (low : Bool) (w : World) (hl : bs.length = n) (hm : n ≤ 100000000) (hx0 : 0 ≤ x) (hx1 : x < 18446744073709551616) (hr : Rd w w.heap.size 1 A n (bs.flatMap encB)) :
    Calls Try.prog 71 #[.slice A n c, .int .u64 x, .int .i64 8, .bool low] w fun e w' => ∃ A' c', e = .returned (.slice A' (n + 8) c') ∧ w'.ownsRow w.heap.size 5 1 (.slice A' (n + 8) c') (n + 8) ((bs ++ bytesOf low x).flatMap encB) ∧ Below w.heap.size w w' :=
  refPut_any A n c 8 bs x low w hl hm (Nat.le_refl _) hx0 hx1 hr

set_option maxHeartbeats 4000000 in
theorem refPutTable_any (A : Option Addr) (n c : Nat) (l : List Ste) (w : World) (hl : l.length = n) (hn : n ≤ 1000000) (h0 : ∀ s ∈ l, 0 ≤ s.root ∧ s.root < 18446744073709551616) (hr : Rd w w.heap.size 3 A n (l.flatMap encS)) :
    Calls Try.prog 43 #[.slice A n c] w (SputRes l n w) := by
  have HL := Lib.hid hl
  have HR := Lib.hid hr
  have H0 := Lib.hid h0
  clear hl hr h0
  by_cases h256 : n ≤ 256
  · have hq := fun (w : World) (id root : Int) => ste_neq w false false id root 0 0
    have HQ := Lib.hid hq
    clear hq
    go_enter Try.func43, Try.ntmps43
    go_wp2
    go_loopw [4, 13] (fun v i wr => ∃ k : Nat, k ≤ n ∧ i = .int .i64 k ∧ Hid ((l.take k).all Ste.may = true) ∧ ∃ A' c', v = .slice A' (16 * k) c' ∧ wr.ownsRow w.heap.size 5 1 (.slice A' (16 * k) c') (16 * k) ((steBytes (l.take k)).flatMap encB) ∧ Below w.heap.size w wr) (fun _ i _ => n - (intOf i).toNat)
    case atStart => exact ⟨0, by omega, rfl, rfl, none, 0, rfl, World.ownsRow_nil _ _ _ _, Below.refl _ _⟩
    case round =>
      obtain ⟨k, hk, rfl, hall, A', c', rfl, hown, hb⟩ := hrel
      by_cases hlt : k < n
      · have hlt' : k < l.length := by rw [HL.out]; exact hlt
        obtain ⟨b, o, rfl, hbb, hc⟩ := (HR.out.below hb).row (fun _ => rfl) hlt' HL.out
        have d0 := hc 0 (by omega)
        have d1 := hc 1 (by omega)
        have d2 := hc 2 (by omega)
        simp only [encS, Nat.add_zero, List.getElem?_cons_zero, List.getElem?_cons_succ] at d0 d1 d2
        obtain ⟨r0, r1⟩ := H0.out _ (List.getElem_mem hlt')
        have HT := Lib.hid (List.take_succ_eq_append_getElem hlt')
        have HE := Lib.hid (List.getElem_mem hlt')
        clear hc
        generalize l[k] = s at *
        have hwr := hb.size
        have hBL := Lib.hid (show (steBytes (l.take k)).length = 16 * k by rw [steBytes_len, List.length_take, HL.out]; omega)
        cases hmay : s.may with
        | false =>
          have HNo : Hid (sputOk l = false) := Lib.hid (by
            have : l.all Ste.may = false := by rw [List.all_eq_false]; exact ⟨s, HE.out, by simp [hmay]⟩
            simp [sputOk, this])
          obtain ⟨ok, id, root⟩ := s
          simp only at *
          cases ok with
          | false =>
            have hne : (!(false == false && (id == 0 && (root == 0 && true)))) = true := by
              simp only [Ste.may, Bool.false_eq_true, if_false, decide_eq_false_iff_not] at hmay
              by_cases h1 : id = 0
              · by_cases h2 : root = 0
                · exact absurd ⟨h1, h2⟩ hmay
                · simp [h2]
              · simp [h1]
            have hq : ∀ w, (binOp .neq 90 (.agg #[.bool false, .int .i64 id, .int .u64 root]) (.agg #[.bool false, .int .i64 0, .int .u64 0])).run Try.prog w = .ok (.bool true) w := fun w => by rw [HQ.out w id root, hne]
            clear hmay hne
            go_wp2
            go_ret2
            exact ⟨.inr ⟨HNo.out, rfl⟩, hb.alloc hb.size _⟩
          | true =>
            have hm := Lib.hid hmay
            clear hmay
            go_wp2_with fail
            all_goals first
              | (go_ret2
                 exact ⟨.inr ⟨HNo.out, rfl⟩, hb.alloc hb.size _⟩)
              | (exfalso
                 have hm2 := hm.out
                 simp only [Ste.may, if_true, decide_eq_false_iff_not] at hm2
                 apply hm2
                 omega)
        | true =>
          have HA : Hid ((l.take (k + 1)).all Ste.may = true) := Lib.hid (by rw [HT.out, List.all_append]; simp [hall.out, hmay])
          obtain ⟨ok, id, root⟩ := s
          simp only at *
          have HBL2 := fun x => Lib.hid (show (steBytes (l.take k) ++ bytesOf true x).length = 16 * k + 8 by rw [List.length_append, hBL.out, bytesOf_len])
          cases ok with
          | false =>
            simp only [Ste.may, Bool.false_eq_true, if_false, decide_eq_true_eq] at hmay
            obtain ⟨rfl, rfl⟩ := hmay
            have hq : ∀ w, (binOp .neq 90 (.agg #[.bool false, .int .i64 0, .int .u64 0]) (.agg #[.bool false, .int .i64 0, .int .u64 0])).run Try.prog w = .ok (.bool false) w := fun w => by rw [HQ.out w 0 0]; rfl
            go_wp2_with fail
            have hBx := Blk.new wr 90 #[.bool false, .int .i64 0, .int .u64 0]
            have hrd := Rd.of_own hown
            have cBx := hBx.cell
            go_region_held3 (fun w' => ∀ j, w'.cell? ⟨wr.heap.size, j, none⟩ = (#[.bool false, .int .i64 0, .int .u64 0] : Array Value)[j]?) (first | with_reducible exact cBx | with_reducible exact hBx.drew.cell | with_reducible exact hBx3.cell | with_reducible exact hBx4.cell)
              (first
                | (go_at_call 71; with_reducible (refine (refPut8 A' (16 * k) c' (steBytes (l.take k)) (0) true _ hBL.out (by omega) (by omega) (by omega) (((hrd.alloc (Nat.le_refl _) _).drew).more (by simp))).mono ?_); rintro e w3 ⟨A3, c3, rfl, hown3, hb3⟩; have hBx3 := hBx.drew.kept hb3; have hrd3 := Rd.of_own hown3)
                | (go_at_call 71; with_reducible (refine (refPut8 A3 (16 * k + 8) c3 _ 0 true _ (HBL2 _).out (by omega) r0 r1 hrd3).mono ?_); rintro e w4 ⟨A4, c4, rfl, hown4, hb4⟩; have hBx4 := hBx3.kept hb4))
            go_wp2
            go_roundw
            case rel =>
              have b3 := (hb.alloc hb.size _).trans ((of_drew hb3).mono (Nat.le_trans hb.size (by simp)))
              refine ⟨k + 1, by omega, by go_num, HA.out, A4, c4, by rw [show 16 * k + 8 + 8 = 16 * (k + 1) by omega], ?_, b3.trans (hb4.mono b3.size)⟩
              rw [HT.out, steBytes_snoc]
              rw [show 16 * k + 8 + 8 = 16 * (k + 1) by omega] at hown4
              exact own_mono hown4 b3.size
            case measure => simp [intOf]; omega
          | true =>
            simp only [Ste.may, if_true, decide_eq_true_eq] at hmay
            obtain ⟨i0, i1, i2⟩ := hmay
            go_wp2_with fail
            have hBx := Blk.new wr 90 #[.bool true, .int .i64 id, .int .u64 root]
            have hrd := Rd.of_own hown
            have cBx := hBx.cell
            go_region_held3 (fun w' => ∀ j, w'.cell? ⟨wr.heap.size, j, none⟩ = (#[.bool true, .int .i64 id, .int .u64 root] : Array Value)[j]?) (first | with_reducible exact cBx | with_reducible exact hBx.drew.cell | with_reducible exact hBx3.cell | with_reducible exact hBx4.cell)
              (first
                | (go_at_call 71; with_reducible (refine (refPut8 A' (16 * k) c' (steBytes (l.take k)) (13 + id * 65536) true _ hBL.out (by omega) (by omega) (by omega) (((hrd.alloc (Nat.le_refl _) _).drew).more (by simp))).mono ?_); rintro e w3 ⟨A3, c3, rfl, hown3, hb3⟩; have hBx3 := hBx.drew.kept hb3; have hrd3 := Rd.of_own hown3)
                | (go_at_call 71; with_reducible (refine (refPut8 A3 (16 * k + 8) c3 _ root true _ (HBL2 _).out (by omega) r0 r1 hrd3).mono ?_); rintro e w4 ⟨A4, c4, rfl, hown4, hb4⟩; have hBx4 := hBx3.kept hb4))
            go_wp2
            go_roundw
            case rel =>
              have b3 := (hb.alloc hb.size _).trans ((of_drew hb3).mono (Nat.le_trans hb.size (by simp)))
              refine ⟨k + 1, by omega, by go_num, HA.out, A4, c4, by rw [show 16 * k + 8 + 8 = 16 * (k + 1) by omega], ?_, b3.trans (hb4.mono b3.size)⟩
              rw [HT.out, steBytes_snoc]
              rw [show 16 * k + 8 + 8 = 16 * (k + 1) by omega] at hown4
              exact own_mono hown4 b3.size
            case measure => simp [intOf]; omega
      · obtain rfl : k = n := by omega
        rw [List.take_of_length_le (by rw [HL.out]; exact Nat.le_refl _)] at hown hall
        have HY : Hid (sputOk l = true) := Lib.hid (by unfold sputOk; rw [hall.out, HL.out]; simpa using h256)
        go_wp2
        go_ret2
        exact ⟨.inl ⟨HY.out, A', c', rfl, hown⟩, hb⟩
  · have HNo : Hid (sputOk l = false) := Lib.hid (by simp [sputOk, HL.out, h256])
    have h256' : 256 < n := by omega
    clear h256
    go_enter Try.func43, Try.ntmps43
    go_wp2
    go_ret2
    exact ⟨.inr ⟨HNo.out, rfl⟩, Below.refl _ _⟩
end Go.Proofs.Ytklbdjbichfajaa
