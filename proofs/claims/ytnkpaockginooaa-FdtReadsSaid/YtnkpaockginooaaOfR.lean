/- A tree out of bytes, the document's: walked whole. -/
import Derived.Test.YtnkpaockginooaaOfO
import Derived.Test.YtnkpaockginooaaOfE
import Derived.Test.YtnkpaockginooaaPutI
namespace Go.Proofs.Ytnkpaockginooaa
set_option linter.unusedVariables false
set_option linter.unusedSimpArgs false
open Go.RowKit Go.Sort
def RofP (bs : List Int) (w : World) (e : Ending) (w' : World) : Prop := match ofOk bs with
  | none => e = .returned (.tuple #[.agg #[.string ⟨#[]⟩, .slice none 0 0, .slice none 0 0], .int .i64 240]) ∧ Below w.heap.size w w'
  | some t => ∃ (sn : ByteArray) (A1 : Option Addr) (n1 c1 : Nat) (A2 : Option Addr) (n2 c2 k : Nat), e = .returned (.tuple #[.agg #[.string sn, .slice A1 n1 c1, .slice A2 n2 c2], .int .i64 0]) ∧ TrOk w' w'.heap.size k t [.string sn, .slice A1 n1 c1, .slice A2 n2 c2] ∧ Below w.heap.size w w'
theorem rof_no {bs : List Int} {w w' : World} (h : ofOk bs = none) (hb : Below w.heap.size w w') : RofP bs w (.returned (.tuple #[.agg #[.string ⟨#[]⟩, .slice none 0 0, .slice none 0 0], .int .i64 240])) w' := by
  unfold RofP
  rw [h]
  exact ⟨rfl, hb⟩
set_option maxRecDepth 100000 in
set_option maxHeartbeats 4000000 in
theorem rof_any (A : Option Addr) (n c : Nat) (l : List Int) (w : World) (hl : l.length = n) (hok : BytesOk l) (hm : n ≤ 1000000000) (hnc : n ≤ c) (hcm : c ≤ maxLen) (hr : Rd w w.heap.size 1 A n (l.flatMap encB)) :
    Calls Try.prog 28 #[.slice A n c] w (RofP l w) := by
  have hcm' : (c : Int) ≤ 9223372036854775807 := by unfold maxLen at hcm; omega
  go_enter Try.func28, Try.ntmps28
  go_upto_region 1 with (fail)
  have hR1 := Blk.new w 25 #[.string ⟨#[]⟩, .slice none 0 0, .slice none 0 0]
  have hb1 := bal (Below.refl w.heap.size w) (.cells #[.string ⟨#[]⟩, .slice none 0 0, .slice none 0 0] 25)
  have hz1 : (w.alloc (.cells #[.string ⟨#[]⟩, .slice none 0 0, .slice none 0 0] 25)).heap.size = w.heap.size + 1 := by simp
  generalize w.alloc (.cells #[.string ⟨#[]⟩, .slice none 0 0, .slice none 0 0] 25) = w1 at *
  have hr1 := (hr.below hb1).more hb1.size
  have HZ1 := Lib.hid hz1
  clear hz1
  by_cases h16 : 16 ≤ n
  · have h4 := four4_yes (b := l) (a := 12) (by omega)
    have hn4 := numB4 hok 12
    have HBe := refNumber_yes A n c 4 l 12 false w1 hl hok (by omega) (by decide) (by omega) hr1
    rw [seqN4 (by omega)] at HBe
    obtain ⟨p, hp⟩ : ∃ p, numB ((l.drop 12).take 4) = p := ⟨_, rfl⟩
    rw [hp] at h4 hn4 HBe
    have HBe := Lib.hid HBe
    obtain ⟨P, hP⟩ := Int.eq_ofNat_of_zero_le hn4.1
    subst hP
    clear hp
    have H4 := Lib.hid h4
    clear h4
    go_upto_region 2 with (go_at_call 66; refine HBe.out.mono ?_; rintro e w2 ⟨rfl, rfl⟩)
    by_cases hg : n ≤ 16384 ∧ 56 ≤ P ∧ P ≤ n
    · obtain ⟨hg1, hg2, hg3⟩ := hg
      go_upto_region 4 with (fail)
      obtain ⟨bA, oA, rfl, hbA, _⟩ := hr1.2 (by omega)
      refine wp_region_held_drew (S := fun W' : World => True) (by kernel_rfl) trivial (fun hHeld => ?_)
      clear hHeld
      have f1 : (0 : Int) ≤ (P : Int) := by omega
      have f2 : (P : Int) ≤ (c : Int) := by omega
      have f3 : (P : Int).toNat = P := by omega
      have f4 : (n : Int) ≤ (c : Int) := by omega
      refine wpAnyH_take (i := 0) (v := ?va0) rfl (by kernel_rfl) (by kernel_rfl) (by kernel_rfl) (fun _ _ _ h => h) (Or.inl ⟨by kernel_rfl, ?hya0⟩) trivial ?resta0
      case hya0 =>
        intro w hSw
        clear hSw
        go_simp
        first | done | with_reducible rfl
      (try simp only [List.getElem_toArray, List.getElem_cons_succ, List.getElem_cons_zero, Act.put, List.setIfInBounds_toArray, List.set_cons_zero, List.set_cons_succ])
      refine wpAnyH_take (i := 1) (v := ?va1) rfl (by kernel_rfl) (by kernel_rfl) (by kernel_rfl) (fun _ _ _ h => h) (Or.inl ⟨by kernel_rfl, ?hya1⟩) trivial ?resta1
      case hya1 =>
        intro w hSw
        clear hSw
        go_simp
        first | done | with_reducible rfl
      (try simp only [List.getElem_toArray, List.getElem_cons_succ, List.getElem_cons_zero, Act.put, List.setIfInBounds_toArray, List.set_cons_zero, List.set_cons_succ])
      refine wpAnyH_take (i := 2) (v := ?va2) rfl (by kernel_rfl) (by kernel_rfl) (by kernel_rfl) (fun _ _ _ h => h) (Or.inl ⟨by kernel_rfl, ?hya2⟩) trivial ?resta2
      case hya2 =>
        intro w hSw
        clear hSw
        go_simp
        first | done | with_reducible rfl
      (try simp only [List.getElem_toArray, List.getElem_cons_succ, List.getElem_cons_zero, Act.put, List.setIfInBounds_toArray, List.set_cons_zero, List.set_cons_succ])
      refine wpAnyH_take (i := 3) (v := ?va3) rfl (by kernel_rfl) (by kernel_rfl) (by kernel_rfl) (fun _ _ _ h => h) (Or.inl ⟨by kernel_rfl, ?hya3⟩) trivial ?resta3
      case hya3 =>
        intro w hSw
        clear hSw
        go_simp
        first | done | with_reducible rfl
      (try simp only [List.getElem_toArray, List.getElem_cons_succ, List.getElem_cons_zero, Act.put, List.setIfInBounds_toArray, List.set_cons_zero, List.set_cons_succ])
      refine wpAnyH_take (i := 4) (v := ?va4) rfl (by kernel_rfl) (by kernel_rfl) (by kernel_rfl) (fun _ _ _ h => h) (Or.inl ⟨by kernel_rfl, ?hya4⟩) trivial ?resta4
      case hya4 =>
        intro w hSw
        clear hSw
        go_simp
        first | done | with_reducible rfl
      (try simp only [List.getElem_toArray, List.getElem_cons_succ, List.getElem_cons_zero, Act.put, List.setIfInBounds_toArray, List.set_cons_zero, List.set_cons_succ])
      refine wpAnyH_take (i := 5) (v := ?va5) rfl (by kernel_rfl) (by kernel_rfl) (by kernel_rfl) (fun _ _ _ h => h) (Or.inl ⟨by kernel_rfl, ?hya5⟩) trivial ?resta5
      case hya5 =>
        intro w hSw
        clear hSw
        go_simp
        first | done | with_reducible rfl
      (try simp only [List.getElem_toArray, List.getElem_cons_succ, List.getElem_cons_zero, Act.put, List.setIfInBounds_toArray, List.set_cons_zero, List.set_cons_succ])
      refine wpAnyH_take (i := 6) (v := ?va6) rfl (by kernel_rfl) (by kernel_rfl) (by kernel_rfl) (fun _ _ _ h => h) (Or.inl ⟨by kernel_rfl, ?hya6⟩) trivial ?resta6
      case hya6 =>
        intro w hSw
        clear hSw
        go_simp
        first | done | with_reducible rfl
      (try simp only [List.getElem_toArray, List.getElem_cons_succ, List.getElem_cons_zero, Act.put, List.setIfInBounds_toArray, List.set_cons_zero, List.set_cons_succ])
      obtain ⟨Ax, hAx⟩ : ∃ A, (if c = P then (some ⟨bA, oA, none⟩ : Option Addr) else some ⟨bA, oA + P, none⟩) = A := ⟨_, rfl⟩
      have hrb : Rd w1 w1.heap.size 1 (some ⟨bA, oA, none⟩) P ((l.take P).flatMap encB) := by
        have h1 := Rd.subB hr1 hl (a := 0) (m := P) (by omega)
        simpa [subB] using h1
      have hrx : Rd w1 w1.heap.size 1 Ax (n - P) ((l.drop P).flatMap encB) := by
        have h1 := Rd.subB hr1 hl (a := P) (m := n - P) (by omega)
        unfold subB at h1
        rw [List.take_of_length_le (by simp; omega)] at h1
        rw [← hAx]
        split
        · have h0 : n - P = 0 := by omega
          rw [List.drop_eq_nil_of_le (show l.length ≤ P by omega), h0]
          exact ⟨by simp, fun h => absurd h (by omega)⟩
        · exact h1
      refine wpAnyH_call (i := 7) (by kernel_rfl) rfl (by kernel_rfl) fun K hK => ?_
      simp only [List.getElem_toArray, List.getElem_cons_succ, List.getElem_cons_zero]
      go_simp
      have hb7 : Below w1.heap.size w1 (w1.alloc (.cells #[.slice (some ⟨bA, oA, none⟩) P c, .slice Ax (n - P) (c - P), .int .i64 56, .bool false, .int .i64 200] 142)).drew := (bal (Below.refl _ _) _).drew
      have hB7 := (Blk.new w1 142 #[.slice (some ⟨bA, oA, none⟩) P c, .slice Ax (n - P) (c - P), .int .i64 56, .bool false, .int .i64 200]).drew
      refine hK.out _ _ trivial ?_
      clear hK K
      (try simp only [List.getElem_toArray, List.getElem_cons_succ, List.getElem_cons_zero, Act.put, List.setIfInBounds_toArray, List.set_cons_zero, List.set_cons_succ])
      clear hAx
      have hz7 : (w1.alloc (.cells #[.slice (some ⟨bA, oA, none⟩) P c, .slice Ax (n - P) (c - P), .int .i64 56, .bool false, .int .i64 200] 142)).drew.heap.size = w1.heap.size + 1 := by simp
      generalize (w1.alloc (.cells #[.slice (some ⟨bA, oA, none⟩) P c, .slice Ax (n - P) (c - P), .int .i64 56, .bool false, .int .i64 200] 142)).drew = w7 at *
      refine wpAnyH_take (i := 8) (v := ?va8) rfl (by kernel_rfl) (by kernel_rfl) (by kernel_rfl) (fun _ _ _ h => h) (Or.inl ⟨by kernel_rfl, ?hya8⟩) trivial ?resta8
      case hya8 =>
        intro w hSw
        clear hSw
        go_simp
        first | done | with_reducible rfl
      (try simp only [List.getElem_toArray, List.getElem_cons_succ, List.getElem_cons_zero, Act.put, List.setIfInBounds_toArray, List.set_cons_zero, List.set_cons_succ])
      refine wpAnyH_done (by kernel_rfl) ?_ _
      obtain ⟨B1, hB1⟩ : ∃ B1, w1.heap.size = B1 := ⟨_, rfl⟩
      rw [hB1] at hB7 hz7 hb7 hrb hrx
      have HB1 := Lib.hid hB1
      have hwB1 : w.heap.size < B1 := by have := HZ1.out; omega
      rw [hB1]
      have hbl7 : Below w.heap.size w w7 := hb1.trans (hb7.mono (by omega))
      have hR7 : Blk w7 w.heap.size 25 #[.string ⟨#[]⟩, .slice none 0 0, .slice none 0 0] := hR1.same (hb7.block _ (by omega))
      have hRows : RdRows w7 ⟨B1, some ⟨bA, oA, none⟩, P, c, Ax, n - P, c - P⟩ (l.take P) (l.drop P) B1 := ⟨by simp; omega, by simp; omega, fun y hy => hok y (List.mem_of_mem_take hy), fun y hy => hok y (List.mem_of_mem_drop hy), by show P ≤ 20000; omega, by show n - P ≤ 20000; omega, by show P ≤ c; omega, by show n - P ≤ c - P; omega, hrb.below hb7, hrx.below hb7⟩
      have hof := ofOk_in H4.out (by simp only [Int.toNat_natCast]; omega)
      simp only [Int.toNat_natCast] at hof
      have hQQ : ∀ a N A', a + N ≤ P → (N = 0 ∨ ∃ b1 o1, (some ⟨bA, oA, none⟩ : Option Addr) = some ⟨b1, o1, none⟩ ∧ A' = some ⟨b1, o1 + a, none⟩) → (fun (l' : List Int) A' => Rd w w.heap.size 1 A' l'.length (l'.flatMap encB)) (((l.take P).drop a).take N) A' := by
        intro a N A' haN h
        have hlen : (((l.take P).drop a).take N).length = N := by simp; omega
        show Rd w w.heap.size 1 A' (((l.take P).drop a).take N).length _
        rw [hlen]
        rcases h with rfl | ⟨b1, o1, e, rfl⟩
        · exact ⟨by simp, fun h => absurd h (by omega)⟩
        · injection e with e
          injection e with e1 e2
          subst e1 e2
          have h0 : Rd w w.heap.size 1 (some ⟨bA, oA, none⟩) P ((l.take P).flatMap encB) := by
            have h1 := Rd.subB hr hl (a := 0) (m := P) (by omega)
            simpa [subB] using h1
          have h1 := Rd.subB h0 (by simp; omega) (a := a) (m := N) (by omega)
          exact h1
      have HQQ := Lib.hid hQQ
      clear hR1 hb1 hrb hrx hB1 hQQ
      have hz78 : B1 + 1 ≤ w7.heap.size := by omega
      clear hz7
      by_cases hl60 : 56 + 4 ≤ (l.take P).length
      · obtain ⟨y, hy⟩ : ∃ y, numB (((l.take P).drop 56).take 4) = y := ⟨_, rfl⟩
        have hy56 := four4_yes hl60
        have HF := cfour_yes ⟨B1, some ⟨bA, oA, none⟩, P, c, Ax, n - P, c - P⟩ (l.take P) (l.drop P) B1 56 200 w7 hRows hB7 (by omega) hl60
        rw [hy] at HF hy56
        rw [hy56] at hof
        simp only [Rdr.cc] at HF
        have HF := Lib.hid HF
        clear hy hy56
        by_cases y1 : y = 1
        · subst y1
          simp only [Option.bind_some, if_true] at hof
          go_upto_region 7 with (go_at_call 67; refine HF.out.mono ?_; rintro e w8 ⟨rfl, hB8, hn8⟩; have cB8 := hB8.cell)
          have hn8 : Near (fun i => i = B1) w7 w8 := hn8
          have hz8 := hn8.size
          have hR8 := hR7.same (hn8.block _ hR7.lt (by omega))
          have hbl8 : Below w.heap.size w w8 := hbl7.trans (hn8.below (fun i hi => by omega) hbl7.size)
          have hB8 : Blk w8 B1 142 (Rdr.cc ⟨B1, some ⟨bA, oA, none⟩, P, c, Ax, n - P, c - P⟩ ((60 : Nat) : Int) false ((200 : Nat) : Int)) := hB8
          have HN := Lib.hid (cnode_any (fun l' A' => Rd w w.heap.size 1 A' l'.length (l'.flatMap encB)) 8 ⟨B1, some ⟨bA, oA, none⟩, P, c, Ax, n - P, c - P⟩ (l.take P) (l.drop P) B1 60 200 1 w8 HQQ.out (by decide) (by decide) hcm (hRows.below (hn8.below (fun i hi => by omega) (by omega))) hB8 (Nat.le_refl _) (by decide) (by decide) (by decide))
          clear HF hRows cB8
          go_upto_region 8 with (go_at_call 68; refine HN.out.mono ?_; rintro e w9 ⟨t, sn, A1, n1, c1, A2, n2, c2, k9, a', bad, l', rfl, hX9, hB9, hn9, hC9⟩)
          have hn9 : Near (fun i => i = B1) w8 w9 := hn9
          have hz9 := hn9.size
          have hR9 := hR8.same (hn9.block _ hR8.lt (by omega))
          have hbl9 : Below w.heap.size w w9 := hbl8.trans (hn9.below (fun i hi => by omega) hbl8.size)
          have hba := bal (Below.refl w9.heap.size w9) (.cells #[.string sn, .slice A1 n1 c1, .slice A2 n2 c2] 25)
          have hTa := Blk.new w9 25 #[.string sn, .slice A1 n1 c1, .slice A2 n2 c2]
          have hRa := hR9.kept hba
          have hBa := hB9.kept hba
          have hbla := hbl9.trans (hba.mono hbl9.size)
          have hXa := TrY.turn (Same.of_below hba) hX9
          have hza : w.heap.size < w9.heap.size := by omega
          clear HN hR9 hB9 hbl9 hX9 hR8 hbl8 hB8
          generalize w9.alloc (.cells #[.string sn, .slice A1 n1 c1, .slice A2 n2 c2] 25) = wa at *
          obtain ⟨ba, hba'⟩ : ∃ ba, w9.heap.size = ba := ⟨_, rfl⟩
          rw [hba'] at hTa hza
          unfold CurS at hC9
          rcases hnp : nodeP (l.take P) (l.drop P) 8 60 200 with _ | ⟨t0, a0, l0⟩
          · rw [hnp] at hC9 hof
            subst hC9
            have HNo := Lib.hid hof
            clear hnp hof
            have hBa : Blk wa B1 142 #[.slice (some ⟨bA, oA, none⟩) P c, .slice Ax (n - P) (c - P), .int .i64 a', .bool true, .int .i64 l'] := hBa
            have cBa := hBa.cell
            have cR := hRa.cell
            have fR := hRa.frozen
            have hbO : Below w.heap.size w (((wa.setCell ⟨w.heap.size, 0, none⟩ (.string ⟨#[]⟩)).setCell ⟨w.heap.size, 1, none⟩ (.slice none 0 0)).setCell ⟨w.heap.size, 2, none⟩ (.slice none 0 0)) := ((hbla.setCell (p := ⟨w.heap.size, 0, none⟩) (Nat.le_refl _) _).setCell (p := ⟨w.heap.size, 1, none⟩) (Nat.le_refl _) _).setCell (p := ⟨w.heap.size, 2, none⟩) (Nat.le_refl _) _
            have hRO := ((hRa.set_ 0 (.string ⟨#[]⟩)).set_ 1 (.slice none 0 0)).set_ 2 (.slice none 0 0)
            have HRes := Lib.hid (rof_no HNo.out hbO)
            have cRO := hRO.cell
            clear hbO
            go_wp2_with fail
            exact bodyPost_ret (v := .tuple #[.agg #[.string ⟨#[]⟩, .slice none 0 0, .slice none 0 0], .int .i64 240]) (by simp [results, Try.results28, go_sem, cRO]) rfl HRes.out
          · rw [hnp] at hC9 hof
            obtain ⟨rfl, rfl, rfl, rfl⟩ := hC9
            have hBa : Blk wa B1 142 #[.slice (some ⟨bA, oA, none⟩) P c, .slice Ax (n - P) (c - P), .int .i64 a0, .bool false, .int .i64 l0] := hBa
            have cBa := hBa.cell
            have cTa := hTa.cell
            have hTok : TrOk wa wa.heap.size k9 t [.string sn, .slice A1 n1 c1, .slice A2 n2 c2] := TrY.ok (fun p cs hp => by
              obtain ⟨h1, h2, A, c', h3, h4, h5, h6⟩ := hp
              exact ⟨h1, h2, A, c', h3, h4, h5, (h6.below hbla).more hbla.size⟩) hXa
            have hLt := nodeP_lens (by rw [List.length_take]; omega) (by rw [List.length_drop]; omega) _ _ _ _ _ _ hnp
            have HP := rput_any (max k9 8) t [.string sn, .slice A1 n1 c1, .slice A2 n2 c2] wa (hTok.mono (Nat.le_max_left _ _)) (hLt.mono (Nat.le_max_right _ _))
            obtain ⟨pb, pe, hput⟩ : ∃ pb pe, putT t = (pb, pe) := ⟨_, _, rfl⟩
            unfold PutP at HP
            rw [hput] at HP
            obtain ⟨np, hnp2⟩ : ∃ m, pb.length = m := ⟨_, rfl⟩
            simp only [hnp2] at HP
            have HP := Lib.hid HP
            simp only [Option.bind_some, hput] at hof
            clear hput hLt hnp
            go_upto_region 11 with (go_at_call 16; refine HP.out.mono ?_; rintro e w11 ⟨Ap, cp, rfl, hown, hb11⟩)
            have s1 := conv_str (Rd.of_own hown) hnp2 cp
            have hbl11 := hbla.trans (hb11.mono hbla.size)
            have s2 := conv_str ((hr.below hbl11).more hbl11.size) hl c
            have hR11 := hRa.kept hb11
            have hT11 := hTa.kept hb11
            have hX11 := TrY.turn (Same.of_below hb11) hXa
            clear hTok hXa hRa hTa hbla HP hnp2 hown cBa cTa
            by_cases he : pe = 0
            · subst he
              by_cases hs : strOfNums pb = strOfNums l
              · rw [if_pos ⟨rfl, hs⟩] at hof
                have HVal := Lib.hid hof
                have hs := Lib.hid hs
                clear hof
                rw [hs.out] at s1
                have cR11 := hR11.cell
                have fR11 := hR11.frozen
                have cT11 := hT11.cell
                have hRf := ((hR11.set_ 0 (.string sn)).set_ 1 (.slice A1 n1 c1)).set_ 2 (.slice A2 n2 c2)
                have cRf := hRf.cell
                have HRes : RofP l w (.returned (.tuple #[.agg #[.string sn, .slice A1 n1 c1, .slice A2 n2 c2], .int .i64 0])) (((w11.setCell ⟨w.heap.size, 0, none⟩ (.string sn)).setCell ⟨w.heap.size, 1, none⟩ (.slice A1 n1 c1)).setCell ⟨w.heap.size, 2, none⟩ (.slice A2 n2 c2)) := by
                  unfold RofP
                  rw [HVal.out]
                  obtain ⟨_, hXf, hbf⟩ := named_treeY (B := w.heap.size) (w := w11) (Nat.le_refl _) hR11 (by show w.heap.size < w8.heap.size; omega) hX11 (Below.refl _ _)
                  have hbF := hbl11.trans hbf
                  exact ⟨sn, A1, n1, c1, A2, n2, c2, k9, rfl, TrY.ok (fun p cs hp => by
                    obtain ⟨h1, h2, A, c', h3, h4, h5, h6⟩ := hp
                    exact ⟨h1, h2, A, c', h3, h4, h5, (h6.below hbF).more hbF.size⟩) hXf, hbF⟩
                have HRes := Lib.hid HRes
                go_wp2_with fail
                exact bodyPost_ret (v := .tuple #[.agg #[.string sn, .slice A1 n1 c1, .slice A2 n2 c2], .int .i64 0]) (by simp [results, Try.results28, go_sem, cRf]) rfl HRes.out
              · rw [if_neg (fun h => hs h.2)] at hof
                have HNo := Lib.hid hof
                have hs := baL hs
                clear hof
                have cR := hR11.cell
                have fR := hR11.frozen
                have hbO : Below w.heap.size w (((w11.setCell ⟨w.heap.size, 0, none⟩ (.string ⟨#[]⟩)).setCell ⟨w.heap.size, 1, none⟩ (.slice none 0 0)).setCell ⟨w.heap.size, 2, none⟩ (.slice none 0 0)) := ((hbl11.setCell (p := ⟨w.heap.size, 0, none⟩) (Nat.le_refl _) _).setCell (p := ⟨w.heap.size, 1, none⟩) (Nat.le_refl _) _).setCell (p := ⟨w.heap.size, 2, none⟩) (Nat.le_refl _) _
                have hRO := ((hR11.set_ 0 (.string ⟨#[]⟩)).set_ 1 (.slice none 0 0)).set_ 2 (.slice none 0 0)
                have HRes := Lib.hid (rof_no HNo.out hbO)
                have cRO := hRO.cell
                clear hbO
                go_wp2_with fail
                exact bodyPost_ret (v := .tuple #[.agg #[.string ⟨#[]⟩, .slice none 0 0, .slice none 0 0], .int .i64 240]) (by simp [results, Try.results28, go_sem, cRO]) rfl HRes.out
            · rw [if_neg (fun h => he h.1)] at hof
              have HNo := Lib.hid hof
              have he0 : (pe == 0) = false := by simp [he]
              clear hof
              have cR := hR11.cell
              have fR := hR11.frozen
              have hbO : Below w.heap.size w (((w11.setCell ⟨w.heap.size, 0, none⟩ (.string ⟨#[]⟩)).setCell ⟨w.heap.size, 1, none⟩ (.slice none 0 0)).setCell ⟨w.heap.size, 2, none⟩ (.slice none 0 0)) := ((hbl11.setCell (p := ⟨w.heap.size, 0, none⟩) (Nat.le_refl _) _).setCell (p := ⟨w.heap.size, 1, none⟩) (Nat.le_refl _) _).setCell (p := ⟨w.heap.size, 2, none⟩) (Nat.le_refl _) _
              have hRO := ((hR11.set_ 0 (.string ⟨#[]⟩)).set_ 1 (.slice none 0 0)).set_ 2 (.slice none 0 0)
              have HRes := Lib.hid (rof_no HNo.out hbO)
              have cRO := hRO.cell
              clear hbO
              go_wp2_with fail
              exact bodyPost_ret (v := .tuple #[.agg #[.string ⟨#[]⟩, .slice none 0 0, .slice none 0 0], .int .i64 240]) (by simp [results, Try.results28, go_sem, cRO]) rfl HRes.out
        · simp only [Option.bind_some, if_neg y1] at hof
          have HNo := Lib.hid hof
          have e1 : (y == 1) = false := by simp [y1]
          clear hof
          go_upto_region 6 with (go_at_call 67; refine HF.out.mono ?_; rintro e w8 ⟨rfl, hB8, hn8⟩; have cB8 := hB8.cell)
          have hn8 : Near (fun i => i = B1) w7 w8 := hn8
          have hz8 := hn8.size
          have hR8 := hR7.same (hn8.block _ hR7.lt (by omega))
          have hbl8 : Below w.heap.size w w8 := hbl7.trans (hn8.below (fun i hi => by omega) hbl7.size)
          have cR := hR8.cell
          have fR := hR8.frozen
          have hbO : Below w.heap.size w (((w8.setCell ⟨w.heap.size, 0, none⟩ (.string ⟨#[]⟩)).setCell ⟨w.heap.size, 1, none⟩ (.slice none 0 0)).setCell ⟨w.heap.size, 2, none⟩ (.slice none 0 0)) := ((hbl8.setCell (p := ⟨w.heap.size, 0, none⟩) (Nat.le_refl _) _).setCell (p := ⟨w.heap.size, 1, none⟩) (Nat.le_refl _) _).setCell (p := ⟨w.heap.size, 2, none⟩) (Nat.le_refl _) _
          have hRO := ((hR8.set_ 0 (.string ⟨#[]⟩)).set_ 1 (.slice none 0 0)).set_ 2 (.slice none 0 0)
          have HRes := Lib.hid (rof_no HNo.out hbO)
          have cRO := hRO.cell
          clear hbO
          go_wp2_with fail
          exact bodyPost_ret (v := .tuple #[.agg #[.string ⟨#[]⟩, .slice none 0 0, .slice none 0 0], .int .i64 240]) (by simp [results, Try.results28, go_sem, cRO]) rfl HRes.out
      · have HF := Lib.hid (cfour_no ⟨B1, some ⟨bA, oA, none⟩, P, c, Ax, n - P, c - P⟩ (l.take P) (l.drop P) B1 56 200 w7 hRows hB7 (by omega) hl60 (by decide))
        rw [four4_no hl60] at hof
        have HNo := Lib.hid hof
        clear hof hl60
        go_upto_region 6 with (go_at_call 67; refine HF.out.mono ?_; rintro e w8 ⟨rfl, hB8, hn8⟩; have cB8 := hB8.cell)
        have hn8 : Near (fun i => i = B1) w7 w8 := hn8
        have hz8 := hn8.size
        have hR8 := hR7.same (hn8.block _ hR7.lt (by omega))
        have hbl8 : Below w.heap.size w w8 := hbl7.trans (hn8.below (fun i hi => by omega) hbl7.size)
        have cR := hR8.cell
        have fR := hR8.frozen
        have hbO : Below w.heap.size w (((w8.setCell ⟨w.heap.size, 0, none⟩ (.string ⟨#[]⟩)).setCell ⟨w.heap.size, 1, none⟩ (.slice none 0 0)).setCell ⟨w.heap.size, 2, none⟩ (.slice none 0 0)) := ((hbl8.setCell (p := ⟨w.heap.size, 0, none⟩) (Nat.le_refl _) _).setCell (p := ⟨w.heap.size, 1, none⟩) (Nat.le_refl _) _).setCell (p := ⟨w.heap.size, 2, none⟩) (Nat.le_refl _) _
        have hRO := ((hR8.set_ 0 (.string ⟨#[]⟩)).set_ 1 (.slice none 0 0)).set_ 2 (.slice none 0 0)
        have HRes := Lib.hid (rof_no HNo.out hbO)
        have cRO := hRO.cell
        clear hbO
        go_wp2_with fail
        exact bodyPost_ret (v := .tuple #[.agg #[.string ⟨#[]⟩, .slice none 0 0, .slice none 0 0], .int .i64 240]) (by simp [results, Try.results28, go_sem, cRO]) rfl HRes.out
    · have HNo := Lib.hid (ofOk_guard H4.out (by simp only [Int.toNat_natCast]; omega))
      by_cases g1 : n ≤ 16384
      · by_cases g2 : 56 ≤ P
        · have g3 : ¬ P ≤ n := fun h => hg ⟨g1, g2, h⟩
          have cR := hR1.cell
          have fR := hR1.frozen
          have hbO : Below w.heap.size w (((w1.setCell ⟨w.heap.size, 0, none⟩ (.string ⟨#[]⟩)).setCell ⟨w.heap.size, 1, none⟩ (.slice none 0 0)).setCell ⟨w.heap.size, 2, none⟩ (.slice none 0 0)) := ((hb1.setCell (p := ⟨w.heap.size, 0, none⟩) (Nat.le_refl _) _).setCell (p := ⟨w.heap.size, 1, none⟩) (Nat.le_refl _) _).setCell (p := ⟨w.heap.size, 2, none⟩) (Nat.le_refl _) _
          have hRO := ((hR1.set_ 0 (.string ⟨#[]⟩)).set_ 1 (.slice none 0 0)).set_ 2 (.slice none 0 0)
          have HRes := Lib.hid (rof_no HNo.out hbO)
          have cRO := hRO.cell
          clear hbO
          go_wp2_with fail
          exact bodyPost_ret (v := .tuple #[.agg #[.string ⟨#[]⟩, .slice none 0 0, .slice none 0 0], .int .i64 240]) (by simp [results, Try.results28, go_sem, cRO]) rfl HRes.out
        · have cR := hR1.cell
          have fR := hR1.frozen
          have hbO : Below w.heap.size w (((w1.setCell ⟨w.heap.size, 0, none⟩ (.string ⟨#[]⟩)).setCell ⟨w.heap.size, 1, none⟩ (.slice none 0 0)).setCell ⟨w.heap.size, 2, none⟩ (.slice none 0 0)) := ((hb1.setCell (p := ⟨w.heap.size, 0, none⟩) (Nat.le_refl _) _).setCell (p := ⟨w.heap.size, 1, none⟩) (Nat.le_refl _) _).setCell (p := ⟨w.heap.size, 2, none⟩) (Nat.le_refl _) _
          have hRO := ((hR1.set_ 0 (.string ⟨#[]⟩)).set_ 1 (.slice none 0 0)).set_ 2 (.slice none 0 0)
          have HRes := Lib.hid (rof_no HNo.out hbO)
          have cRO := hRO.cell
          clear hbO
          go_wp2_with fail
          exact bodyPost_ret (v := .tuple #[.agg #[.string ⟨#[]⟩, .slice none 0 0, .slice none 0 0], .int .i64 240]) (by simp [results, Try.results28, go_sem, cRO]) rfl HRes.out
      · have cR := hR1.cell
        have fR := hR1.frozen
        have hbO : Below w.heap.size w (((w1.setCell ⟨w.heap.size, 0, none⟩ (.string ⟨#[]⟩)).setCell ⟨w.heap.size, 1, none⟩ (.slice none 0 0)).setCell ⟨w.heap.size, 2, none⟩ (.slice none 0 0)) := ((hb1.setCell (p := ⟨w.heap.size, 0, none⟩) (Nat.le_refl _) _).setCell (p := ⟨w.heap.size, 1, none⟩) (Nat.le_refl _) _).setCell (p := ⟨w.heap.size, 2, none⟩) (Nat.le_refl _) _
        have hRO := ((hR1.set_ 0 (.string ⟨#[]⟩)).set_ 1 (.slice none 0 0)).set_ 2 (.slice none 0 0)
        have HRes := Lib.hid (rof_no HNo.out hbO)
        have cRO := hRO.cell
        clear hbO
        go_wp2_with fail
        exact bodyPost_ret (v := .tuple #[.agg #[.string ⟨#[]⟩, .slice none 0 0, .slice none 0 0], .int .i64 240]) (by simp [results, Try.results28, go_sem, cRO]) rfl HRes.out
  · have HNo := Lib.hid (ofOk_short (bs := l) (by omega))
    have HBe := Lib.hid (refNumber_no A n c 4 12 false w1 (by omega) (by decide) (by omega))
    go_upto_region 2 with (go_at_call 66; refine HBe.out.mono ?_; rintro e w2 ⟨rfl, rfl⟩)
    have cR := hR1.cell
    have fR := hR1.frozen
    have hbO : Below w.heap.size w (((w1.setCell ⟨w.heap.size, 0, none⟩ (.string ⟨#[]⟩)).setCell ⟨w.heap.size, 1, none⟩ (.slice none 0 0)).setCell ⟨w.heap.size, 2, none⟩ (.slice none 0 0)) := ((hb1.setCell (p := ⟨w.heap.size, 0, none⟩) (Nat.le_refl _) _).setCell (p := ⟨w.heap.size, 1, none⟩) (Nat.le_refl _) _).setCell (p := ⟨w.heap.size, 2, none⟩) (Nat.le_refl _) _
    have hRO := ((hR1.set_ 0 (.string ⟨#[]⟩)).set_ 1 (.slice none 0 0)).set_ 2 (.slice none 0 0)
    have HRes := Lib.hid (rof_no HNo.out hbO)
    have cRO := hRO.cell
    clear hbO
    go_wp2_with fail
    exact bodyPost_ret (v := .tuple #[.agg #[.string ⟨#[]⟩, .slice none 0 0, .slice none 0 0], .int .i64 240]) (by simp [results, Try.results28, go_sem, cRO]) rfl HRes.out
end Go.Proofs.Ytnkpaockginooaa
