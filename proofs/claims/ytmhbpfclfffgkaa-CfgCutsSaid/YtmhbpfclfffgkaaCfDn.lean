/- Chapter 14: the document's writer: a text; walked. -/
import Derived.Test.YtmhbpfclfffgkaaCfDw
namespace Go.Proofs.Ytmhbpfclfffgkaa
set_option linter.unusedVariables false
set_option linter.unusedSimpArgs false
open Go.RowKit Go.Sort

/-- The bytes of a text, sixteen. -/
def padL (nm : ByteArray) : List Int := (strB nm ++ List.replicate 16 0).take 16
theorem padL_len (nm : ByteArray) : (padL nm).length = 16 := by simp [padL]
theorem padL_eq {nm : ByteArray} (h : nm.size ≤ 16) : padL nm = nameF nm := by
  unfold padL nameF
  have h1 : (strB nm).take 16 = strB nm := List.take_of_length_le (by rw [strB_len]; exact h)
  rw [List.take_append, strB_len, h1, List.take_replicate, Nat.min_eq_left (by omega)]
theorem padL_in {nm : ByteArray} {k : Nat} (hk : k < 16) (h : k < nm.size) : (padL nm).take (k + 1) = (padL nm).take k ++ [(nm[k].toNat : Int)] := by
  have h1 : (padL nm)[k]? = some (nm[k].toNat : Int) := by
    rw [← strB_at nm k h]
    unfold padL
    rw [List.getElem?_take_of_lt hk, List.getElem?_append_left (by rw [strB_len]; exact h), List.getD_eq_getElem?_getD, List.getElem?_eq_getElem (by rw [strB_len]; exact h)]
    rfl
  rw [List.take_add_one, h1]; rfl
theorem padL_out {nm : ByteArray} {k : Nat} (hk : k < 16) (h : ¬ k < nm.size) : (padL nm).take (k + 1) = (padL nm).take k ++ [0] := by
  have h1 : (padL nm)[k]? = some 0 := by
    unfold padL
    rw [List.getElem?_take_of_lt hk, List.getElem?_append_right (by rw [strB_len]; omega), List.getElem?_replicate, if_pos (by omega)]
  rw [List.take_add_one, h1]; rfl
theorem dw_app {B gw K : Nat} {bs bs' : List Int} {e : Int} {c : Int} {w1 : World} {A1 : Option Addr} {n c1 : Nat} (hBg : B ≤ gw) (hn : n = bs'.length + 1) (hB1 : Blk w1 gw 81 #[.slice A1 n c1, .int .i64 e]) (hown : w1.ownsRow B 5 1 (.slice A1 n c1) n (bs'.flatMap encB ++ [.int .u8 c])) (hK : bs'.length ≤ K) (hbs : e = 0 → bs' = bs) :
    DW B gw (K + 1) (bs ++ [c]) e w1 := by
  subst hn
  refine ⟨hBg, A1, c1, bs' ++ [c], ?_, ?_, by rw [List.length_append]; simp; omega, fun he => by rw [hbs he]⟩
  · rw [List.length_append]; exact hB1
  · rw [List.length_append, List.flatMap_append]; exact hown
set_option maxRecDepth 100000 in
set_option maxHeartbeats 2000000 in
theorem dname_any (B gw K : Nat) (bs : List Int) (e : Int) (nm : ByteArray) (w : World) (hS : DW B gw K bs e w) (hm : K ≤ 1000000) (hs : nm.size ≤ 1000000000) (hBw : B ≤ w.heap.size) :
    Calls Try.prog 73 #[.pointer (some ⟨gw, 0, none⟩), .string nm] w fun r w' => r = .returned (.tuple #[]) ∧ DW B gw (K + 16) (bs ++ nameF nm) (fst e (if nameN (strB nm) then 0 else 143)) w' ∧ Wrt B gw w w' := by
  have HN := Lib.hid (rname_any nm w hs)
  obtain ⟨b, hb⟩ : ∃ b, nameN (strB nm) = b := ⟨_, rfl⟩
  have HM := Lib.hid (dmust_any B gw K bs e 143 b w hS)
  obtain ⟨e1, he1⟩ : ∃ x, fst e (if b then 0 else 143) = x := ⟨_, rfl⟩
  have HE : Hid (e1 = 0 → nm.size ≤ 16) := Lib.hid (fun h => by
    rw [← he1] at h
    have h2 := (fst_zero h).2
    split at h2
    · rename_i h3
      rw [← hb] at h3
      unfold nameN at h3
      simp only [Bool.and_eq_true, decide_eq_true_eq] at h3
      rw [← strB_len]; exact h3.2
    · omega)
  rw [hb] at HN ⊢
  rw [he1] at HM ⊢
  clear hS hb he1
  go_enter Try.func73, Try.ntmps73
  go_wp2_with (first
    | (go_at_call 19; refine HN.out.mono ?_; rintro e2 w1 ⟨rfl, rfl⟩)
    | (go_at_call 37; refine HM.out.mono ?_; rintro e2 w1 ⟨rfl, hD1, hW1⟩))
  go_loopw [4] (fun iv wr => ∃ k : Nat, k ≤ 16 ∧ iv = .int .i64 k ∧ Hid (DW B gw (K + k) (bs ++ (padL nm).take k) e1 wr) ∧ Wrt B gw w wr) (fun iv _ => 16 - (intOf iv).toNat)
  case atStart => exact ⟨0, by omega, rfl, Lib.hid (by simpa using hD1), hW1⟩
  case round =>
    obtain ⟨k, hk, rfl, hd, hwr⟩ := hrel
    obtain ⟨hBg, A, c, bs', hB, hown, hKK, hbs⟩ := hd.out
    by_cases hlt : k < 16
    · have hdk : decide ((k : Int) < 16) = true := decide_eq_true (by omega)
      obtain ⟨nb, hnb⟩ : ∃ n, bs'.length = n := ⟨_, rfl⟩
      have HNb := Lib.hid hnb
      have HBg := Lib.hid hBg
      have HK := Lib.hid hKK
      have HBs := Lib.hid hbs
      have hKb : nb ≤ K + 16 := by omega
      rw [hnb] at hB hown
      have HBX : Hid (B ≤ wr.heap.size) := Lib.hid (Nat.le_trans hBw hwr.size)
      have HM3 := Lib.hid (show nb + 1 ≤ maxLen by unfold maxLen; omega)
      have HM4 := Lib.hid (show (nb + 1) * 1 ≤ 140737488355328 by omega)
      have cB := hB.cell
      have fB := hB.frozen
      have hgl := hB.lt
      clear hKK hbs hnb hBg hd
      by_cases hin : k < nm.size
      · have hi2 : decide ((k : Int) < (nm.size : Int)) = true := decide_eq_true (by omega)
        have HP := padL_in hlt hin
        have hbX := bal (Below.refl wr.heap.size wr) (.cells #[.int .u8 (nm[k].toNat : Int)] 5)
        have hownX := own_kept hown hbX
        have hBX := hB.kept hbX
        go_wp2_with (at_builtin; refine wpList_app u8_elem rfl (.tmp 25) (.tmp 27) rfl B hownX rfl rfl (Rd.fresh _ _ _ 1 1 _ rfl) (by simp [Value.oneCell']) HM3.out HM4.out (by have := hwr.size; simp; omega) ?_; intro v1 w1 hown1 hb1 hg1; obtain ⟨A1, c1, rfl, _, _⟩ := own_slice hown1; have hne := own_blk_ne hownX hBX (by decide); have hB1 := hBX.grown hg1 hne; have cB1 := hB1.cell; have f1 := hB1.frozen)
        have hB2 := hB1.set_ 0 (.slice A1 (nb + 1) c1)
        have hown2 : (w1.setCell ⟨gw, 0, none⟩ (.slice A1 (nb + 1) c1)).ownsRow B 5 1 (.slice A1 (nb + 1) c1) (nb + 1) (bs'.flatMap encB ++ [.int .u8 (nm[k].toNat : Int)]) := own_same hown1 fun k hk => Below.heap_setCell _ _ _ _ (by
          intro e
          have e : k = gw := e
          subst e
          exact own_blk_ne hown1 hB1 (by decide) hk.symm)
        have hD := Lib.hid (dw_app HBg.out (by rw [HNb.out]) (by simpa using hB2) hown2 HK.out HBs.out)
        have hW := Lib.hid (((hwr.trans (Wrt.of_below hbX HBX.out)).grown hownX (Nat.le_refl _) hg1 (by have := hwr.size; have := HBX.out; simp; omega)).set HBg.out 0 (.slice A1 (nb + 1) c1))
        go_roundw
        case rel => exact ⟨k + 1, by omega, by go_num, Lib.hid (by rw [HP, ← List.append_assoc]; exact hD.out), hW.out⟩
        case measure => simp [intOf]; omega
      · have hi2 : decide ((k : Int) < (nm.size : Int)) = false := decide_eq_false (by omega)
        have HP := padL_out hlt hin
        have hbX := bal (Below.refl wr.heap.size wr) (.cells #[.int .u8 0] 5)
        have hownX := own_kept hown hbX
        have hBX := hB.kept hbX
        go_wp2_with (at_builtin; refine wpList_app u8_elem rfl (.tmp 25) (.tmp 27) rfl B hownX rfl rfl (Rd.fresh _ _ _ 1 1 _ rfl) (by simp [Value.oneCell']) HM3.out HM4.out (by have := hwr.size; simp; omega) ?_; intro v1 w1 hown1 hb1 hg1; obtain ⟨A1, c1, rfl, _, _⟩ := own_slice hown1; have hne := own_blk_ne hownX hBX (by decide); have hB1 := hBX.grown hg1 hne; have cB1 := hB1.cell; have f1 := hB1.frozen)
        have hB2 := hB1.set_ 0 (.slice A1 (nb + 1) c1)
        have hown2 : (w1.setCell ⟨gw, 0, none⟩ (.slice A1 (nb + 1) c1)).ownsRow B 5 1 (.slice A1 (nb + 1) c1) (nb + 1) (bs'.flatMap encB ++ [.int .u8 0]) := own_same hown1 fun k hk => Below.heap_setCell _ _ _ _ (by
          intro e
          have e : k = gw := e
          subst e
          exact own_blk_ne hown1 hB1 (by decide) hk.symm)
        have hD := Lib.hid (dw_app HBg.out (by rw [HNb.out]) (by simpa using hB2) hown2 HK.out HBs.out)
        have hW := Lib.hid (((hwr.trans (Wrt.of_below hbX HBX.out)).grown hownX (Nat.le_refl _) hg1 (by have := hwr.size; have := HBX.out; simp; omega)).set HBg.out 0 (.slice A1 (nb + 1) c1))
        go_roundw
        case rel => exact ⟨k + 1, by omega, by go_num, Lib.hid (by rw [HP, ← List.append_assoc]; exact hD.out), hW.out⟩
        case measure => simp [intOf]; omega
    · obtain rfl : k = 16 := by omega
      go_wp2
      refine bodyPost_end (results_none rfl _ _ _) rfl ⟨rfl, hd.out.mono (Nat.le_refl _) (fun h => ?_), hwr⟩
      rw [← padL_eq (HE.out h), List.take_of_length_le (by rw [padL_len]; exact Nat.le_refl _)]
end Go.Proofs.Ytmhbpfclfffgkaa
