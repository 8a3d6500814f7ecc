/- Chapter 23, the table of streams: the program's. -/
import Derived.Test.YtdmndgjfnlockaaTabL
import Derived.Deep.CutRange
import Derived.Deep.RegionLaw
namespace Go.Proofs.Ytdmndgjfnlockaa
set_option linter.unusedVariables false
open Go.RowKit Go.Sort

def encBl (b : Bool) : List Value := [.bool b]
theorem made_stes : ∀ n, (madeCells #[.bool false, .int .i64 0, .int .u64 0] (n * 3)).toList = (List.replicate n zS).flatMap encS
  | 0 => by simp [madeCells]
  | n + 1 => by
    rw [List.replicate_succ', List.flatMap_append, ← made_stes n]
    have h0 : n * 3 % 3 = 0 := Nat.mul_mod_left _ _
    have h1 : (n * 3 + 1) % 3 = 1 := by omega
    have h2 : (n * 3 + 2) % 3 = 2 := by omega
    simp [madeCells, show (n + 1) * 3 = n * 3 + 1 + 1 + 1 by omega, List.range_succ, encS, zS, h1, h2]
theorem make_stes (w : World) (n : Nat) (h : n ≤ 1000) :
    (Instr.makeSlice 44 (.int .i64 (n : Int)) (.int .i64 (n : Int))).run Try.prog w = .ok (.slice (some ⟨w.heap.size, 0, none⟩) n n) (w.alloc (.cells (madeCells #[.bool false, .int .i64 0, .int .u64 0] (n * 3)) 52)) := by
  obtain ⟨i, hi, hz, hs, hb⟩ := info_parts info_ste
  have := run_make (P := Try.prog) w 44 52 i _ Try.underlying44 hi hz .i64 .i64 n n (by omega) (by omega) (by rw [hb]; omega) (by omega)
  rw [hs] at this
  simpa [Value.cells] using this
theorem own_made {w : World} {base : Nat} {e : TypeId} {size n : Nat} {cur : Array Value} (hb : base ≤ w.heap.size) (hm : n ≤ maxLen) (hs : cur.size = n * size) : (w.alloc (.cells cur e)).ownsRow base e size (.slice (some ⟨w.heap.size, 0, none⟩) n n) n cur.toList := by
  refine ⟨by simpa using hs, .inr ⟨w.heap.size, n, cur, rfl, hb, heap_alloc_new w _, Nat.le_refl _, hm, hs, ?_⟩⟩
  exact List.take_of_length_le (by simp [hs])
theorem info_entry : (Try.prog.info? 75).map (fun i => (i.zero, i.size, i.bytes)) = some (some (.agg #[.bool false, .int .i64 0, .int .u64 0, .int .u32 0]), 4, 32) := by kernel_rfl
theorem entry_elem : ElemInfo Try.prog 73 75 4 32 := by
  obtain ⟨i, hi, hz, hs, hb⟩ := info_parts info_entry
  exact ⟨Try.underlying73, ⟨i, _, hi, hz, hs, hb, rfl⟩, by decide⟩
theorem encE1 (own : Ste) (l : List Int) (s : Int) : (l ++ [s]).flatMap (encE own) = l.flatMap (encE own) ++ encE own s := by simp
theorem blk_types {w : World} {b0 b1 : Nat} {e e' : TypeId} {s s' n n' : Nat} {v v' : Value} {xs xs' : List Value} (h : w.ownsRow b0 e s v n xs) (h' : w.ownsRow b1 e' s' v' n' xs') (hne : e ≠ e') {k : Nat} (hk : v.ownBlock = some k) : v'.ownBlock ≠ some k := by
  intro hk'
  rcases h.2 with ⟨rfl, _⟩ | ⟨g, c, cur, rfl, _, hh, _⟩
  · simp [Value.ownBlock] at hk
  · rcases h'.2 with ⟨rfl, _⟩ | ⟨g', c', cur', rfl, _, hh', _⟩
    · simp [Value.ownBlock] at hk'
    · simp [Value.ownBlock] at hk hk'
      subst hk hk'
      rw [hh] at hh'
      injection hh' with hh'
      injection hh' with _ ht
      exact hne ht

/-- What the making of a table hands back. -/
def TabR (R : Option (List Ste)) (n : Nat) (w : World) (e : Ending) (w' : World) : Prop :=
  (match R with
  | none => e = .returned (.tuple #[.slice none 0 0, .int .i64 230])
  | some l => ∃ A c, e = .returned (.tuple #[.slice A n c, .int .i64 0]) ∧ l.length = n ∧ Rd w' w'.heap.size 3 A n (l.flatMap encS)) ∧ Below w.heap.size w w'

set_option maxRecDepth 100000 in
set_option maxHeartbeats 8000000 in
theorem table_any (n : Nat) (ver : Int) (A : Option Addr) (ng c : Nat) (A2 : Option Addr) (n2 c2 : Nat) (gs : List Gd) (A3 : Option Addr) (c3 : Nat) (st : List Bool) (A4 : Option Addr) (c4 : Nat) (vt : List Int) (w : World) (hn : n ≤ 256) (hng : ng ≤ 20) (hl : gs.length = ng) (hl3 : st.length = ng) (hl4 : vt.length = ng)
    {w0 : World} {B0 : Nat} (hg : GsOk w0 B0 ng gs) (hB0 : B0 ≤ w.heap.size) (hw0 : ∀ W, Below w.heap.size w W → Below B0 w0 W) (hfew : ∀ k, k < ng → fewG (gs.getD k zG) = true) (hr : GRows w A ng gs)
    (hr3 : Rd w w.heap.size 1 A3 ng (st.flatMap encBl)) (hr4 : Rd w w.heap.size 1 A4 ng (vt.flatMap encQ)) (hv : ∀ v ∈ vt, 0 ≤ v ∧ v < 18446744073709551616) :
    Calls Try.prog 19 #[.int .i64 n, .agg #[.int .u32 ver, .slice A ng c, .slice A2 n2 c2], .slice A3 ng c3, .slice A4 ng c4] w (TabR (tabK n gs st vt ng) n w) := by
  obtain ⟨R, hR⟩ : ∃ R, tabK n gs st vt ng = R := ⟨_, rfl⟩
  rw [hR]
  have HRes := Lib.hid hR
  have HL := Lib.hid hl
  have HL3 := Lib.hid hl3
  have HL4 := Lib.hid hl4
  have HG := Lib.hid hg
  have HW0 := Lib.hid hw0
  have HF := Lib.hid hfew
  have HR := Lib.hid hr
  have HR3 := Lib.hid hr3
  have HR4 := Lib.hid hr4
  have HV := Lib.hid hv
  have HT0 := Lib.hid (show tabK n gs st vt 0 = some (List.replicate n zS) from rfl)
  have hmk := fun w => make_stes w n (by omega)
  have hcs : (madeCells #[Value.bool false, .int .i64 0, .int .u64 0] (n * 3)).size = n * 3 := size_madeCells _ _
  have HM := Lib.hid (made_stes n)
  generalize madeCells #[Value.bool false, .int .i64 0, .int .u64 0] (n * 3) = cur at *
  clear hR hl hl3 hl4 hg hw0 hfew hr hr3 hr4 hv
  go_enter Try.func19, Try.ntmps19
  go_wp2
  refine wp_name ?_
  intro w2 hw2
  obtain ⟨gw, hgw0, hb2, ho2⟩ : ∃ gw, gw = w.heap.size + 1 ∧ RowKit.Below w.heap.size w w2 ∧ w2.ownsRow w.heap.size 52 3 (.slice (some ⟨gw, 0, none⟩) n n) n ((List.replicate n zS).flatMap encS) := by
    refine ⟨_, rfl, by rw [hw2]; exact bal (bal (Below.refl _ _) _) _, ?_⟩
    rw [hw2, ← HM.out]
    have := own_made (w := w.alloc (.cells #[.int .u32 ver, .slice A ng c, .slice A2 n2 c2] 40)) (base := w.heap.size) (e := 52) (size := 3) (n := n) (cur := cur) (by simp) (by unfold maxLen; omega) hcs
    simpa using this
  subst hgw0
  clear hw2 hmk hcs HM
  go_loopw [44] (fun i wr => ∃ k : Nat, k ≤ ng ∧ i = .int .i64 k ∧ ∃ l', tabK n gs st vt k = some l' ∧ wr.ownsRow w.heap.size 52 3 (.slice (some ⟨w.heap.size + 1, 0, none⟩) n n) n (l'.flatMap encS) ∧ Below w.heap.size w wr) (fun i _ => ng - (intOf i).toNat)
  case atStart => exact ⟨0, by omega, rfl, _, HT0.out, ho2, hb2⟩
  case round =>
    obtain ⟨k, hk, rfl, l', hk', ho, hb⟩ := hrel
    clear ho2 hb2
    have HK := Lib.hid hk'
    have HLt := Lib.hid (tabK_len hk')
    clear hk'
    by_cases hlt : k < ng
    · obtain ⟨b, o, rfl, hbb, hrg⟩ := HR.out k hlt
      have hgk := HG.out k hlt
      have hfk := HF.out k hlt
      have hrg2 : wr.rangeAt b (o + k * 79) (gs.getD k zG).cs := fun j v hv => (hb.cell (p := ⟨b, o + k * 79 + j, none⟩) hbb).trans (hrg j v hv)
      have hstep : tabK n gs st vt (k + 1) = if st.getD k false then laidN l' (ownS (vt.getD k 0)) (gs.getD k zG).strs else some l' := by rw [tabK, HK.out]; rfl
      clear hrg
      generalize gs.getD k zG = gd at *
      have HRg := Lib.hid hrg2
      clear hrg2
      have hlen := hgk.len
      obtain ⟨Z, hZ, hz0, hZi⟩ := zero_guest
      have hst := store_guest hZ hZi hlen hgk.one
      have hsz : gd.cs.toArray.size = 79 := by simp [hlen]
      clear hZi
      obtain ⟨b3, o3, rfl, hb3, hc3⟩ := (HR3.out.below hb).row (fun _ => rfl) (k := k) (by rw [HL3.out]; exact hlt) HL3.out
      have d3 := hc3 0 (by omega)
      have hg3 : st.getD k false = st[k]'(by rw [HL3.out]; exact hlt) := by rw [List.getD_eq_getElem?_getD, List.getElem?_eq_getElem (by rw [HL3.out]; exact hlt)]; rfl
      simp only [encBl, Nat.add_zero, Nat.mul_one, List.getElem?_cons_zero] at d3
      rw [hg3] at hstep
      obtain ⟨b4, o4, rfl, hb4, hc4⟩ := (HR4.out.below hb).row (fun _ => rfl) (k := k) (by rw [HL4.out]; exact hlt) HL4.out
      have d4 := hc4 0 (by omega)
      have hg4 : vt.getD k 0 = vt[k]'(by rw [HL4.out]; exact hlt) := by rw [List.getD_eq_getElem?_getD, List.getElem?_eq_getElem (by rw [HL4.out]; exact hlt)]; rfl
      simp only [encQ, Nat.add_zero, Nat.mul_one, List.getElem?_cons_zero] at d4
      rw [hg4] at hstep
      obtain ⟨hv0, hv1⟩ := HV.out _ (List.getElem_mem (l := vt) (n := k) (by rw [HL4.out]; exact hlt))
      have l3 : b3 < wr.heap.size := Nat.lt_of_lt_of_le hb3 hb.size
      have l4 : b4 < wr.heap.size := Nat.lt_of_lt_of_le hb4 hb.size
      clear hc3 hc4 hg3 hg4
      generalize st[k]'(by rw [HL3.out]; exact hlt) = sk at *
      generalize vt[k]'(by rw [HL4.out]; exact hlt) = v at *
      have HVm := Lib.hid (fun W => vmid_any v hv0 W)
      have HVr := Lib.hid (fun W => root_any v hv0 W)
      rw [vmidN v] at HVm
      rw [rootN v hv0] at HVr
      have HOw := Lib.hid (show ownS v = ⟨true, v / 281474976710656 % 256, v / 2 % 140737488355328 * 2⟩ from rfl)
      generalize ownS v = own at *
      generalize v / 281474976710656 % 256 = oid at *
      generalize v / 2 % 140737488355328 * 2 = oroot at *
      clear hv0 hv1
      cases sk
      case false =>
        have HN := Lib.hid (show tabK n gs st vt (k + 1) = some l' by rw [hstep]; rfl)
        clear hstep
        go_wp2_with (refine wpList_load_mid rfl 59 (.tmp 47) rfl b (o + k * 79) (by rfl) gd.cs _ HRg.out Try.underlying59 rfl (by rw [hlen]; kernel_rfl) ?_)
        go_roundw
        case rel => exact ⟨k + 1, by omega, by go_num, l', HN.out, ho.alloc _, bal hb _⟩
        case measure => simp [intOf]; omega
      case true =>
        have HN := Lib.hid (show tabK n gs st vt (k + 1) = laidN l' own gd.strs by rw [hstep]; rfl)
        clear hstep
        go_upto_region 8 with (refine wpList_load_mid rfl 59 (.tmp 47) rfl b (o + k * 79) (by rfl) gd.cs _ HRg.out Try.underlying59 rfl (by rw [hlen]; kernel_rfl) ?_)
        refine wp_name ?_
        intro w3 hw3
        have hb3' : RowKit.Below wr.heap.size wr w3 := by rw [hw3]; exact bal (Below.refl _ _) _
        have hGB : Blk w3 wr.heap.size 59 gd.cs.toArray := by rw [hw3]; exact Blk.new _ _ _
        have d4' : w3.cell? ⟨b4, o4 + k, none⟩ = some (.int .u64 v) := (hb3'.cell (p := ⟨b4, o4 + k, none⟩) (Nat.lt_of_lt_of_le hb4 hb.size)).trans d4
        have hl4' : b4 < w3.heap.size := Nat.lt_of_lt_of_le (Nat.lt_of_lt_of_le hb4 hb.size) hb3'.size
        clear hw3 d4 d3
        go_cut [13] from 54 to 64 (fun s13 wx => ∃ g13, s13 = .pointer (some ⟨g13, 0, none⟩) ∧ Blk wx g13 52 #[.bool true, .int .i64 oid, .int .u64 oroot] ∧ Below w3.heap.size w3 wx)
        case first =>
          go_region_law (go_simp; first
            | (go_at_call 16; refine (HVm.out _).mono ?_; rintro e w4 ⟨rfl, rfl⟩)
            | (go_at_call 15; refine (HVr.out _).mono ?_; rintro e w5 ⟨rfl, rfl⟩))
          all_goals go_wp2_with fail
          all_goals go_meet
          all_goals exact ⟨_, rfl, (Blk.new _ _ _).drew, (bal (Below.refl _ _) _).drew⟩
        case rest =>
          obtain ⟨g13, rfl, hB13, hbc⟩ := hcut
          have hGc := hGB.kept hbc
          have d78 : wc.cell? ⟨wr.heap.size, 78, none⟩ = some (.slice gd.AS gd.nS gd.cS) := by
            rw [hGc.cell 78]
            simpa using hgk.cS
          have hbw3 := hb3'.trans (hbc.mono hb3'.size)
          have hbwc := hb.trans (hbw3.mono hb.size)
          have ho3 := own_kept ho hbw3
          have hS40 : gd.nS ≤ 40 := by
            simp [fewG] at hfk
            omega
          have HSt := Lib.hid (hgk.rs.below (HW0.out wc hbwc))
          have HLs := Lib.hid hgk.ls
          have HBs := Lib.hid hgk.bs
          have hz3 := hbw3.size
          have hzc := hbwc.size
          clear hGB hGc d4' hl4' hbc hz0 hst hb3' ho hb HRg l3 l4 hbw3 hgk hfk hlen hsz
          generalize wr.heap.size = gG at *
          generalize gd.AS = AS at *
          generalize gd.nS = nS at *
          generalize gd.cS = cS at *
          generalize gd.strs = strs at *
          clear wr
          go_wp2_with fail
          go_loopw [14, 68] (fun s14 i wi => ∃ j : Nat, j ≤ nS ∧ i = .int .i64 j ∧ ∃ A5 c5, s14 = .slice A5 j c5 ∧ wi.ownsRow wc.heap.size 75 4 (.slice A5 j c5) j ((strs.take j).flatMap (encE own)) ∧ Below wc.heap.size wc wi) (fun _ i _ => nS - (intOf i).toNat)
          case atStart => exact ⟨0, by omega, rfl, _, _, rfl, World.ownsRow_nil _ _ _ _, Below.refl _ _⟩
          case round =>
            obtain ⟨j, hj, rfl, A5, c5, rfl, hE, hbi⟩ := hrel
            have hB13i := hB13.kept hbi
            by_cases hjl : j < nS
            · have hjl' : j < strs.length := by rw [HLs.out]; exact hjl
              obtain ⟨b7, o7, rfl, hb7, hc7⟩ := (HSt.out.below (hbi.mono (Nat.le_trans hB0 hzc))).row (fun _ => rfl) hjl' HLs.out
              have d7 := hc7 0 (by omega)
              simp only [encU32, Nat.add_zero, Nat.mul_one, List.getElem?_cons_zero] at d7
              have HT := Lib.hid (List.take_succ_eq_append_getElem hjl')
              have HM := Lib.hid (show j + 1 ≤ maxLen by unfold maxLen; omega)
              have hcc := hB13i.cell
              have hzi := hbi.size
              clear hc7
              generalize strs[j] = s at *
              go_wp2_with (at_builtin; refine wpList_app entry_elem rfl (.tmp 72) (.tmp 76) rfl wc.heap.size (hE.alloc _) rfl rfl (Rd.fresh _ _ _ 1 4 _ rfl) (by intro u hu; simp at hu; rcases hu with rfl | rfl | rfl | rfl <;> rfl) HM.out (by omega) (by simp; omega) ?_; intro v2 w5 hown5 hb5 hgr; obtain ⟨A6, c6, rfl, _, _⟩ := own_slice hown5)
              go_roundw
              case rel => exact ⟨j + 1, by omega, by go_num, _, _, rfl, by rw [HT.out, encE1, show encE own s = [.bool true, .int .i64 oid, .int .u64 oroot, .int .u32 s] by rw [HOw.out]; rfl]; exact hown5, (bal hbi _).trans hb5⟩
              case measure => simp [intOf]; omega
            · obtain rfl : j = nS := by omega
              rw [List.take_of_length_le (by rw [HLs.out]; exact Nat.le_refl _)] at hE
              have HLd := Lib.hid (laid_any w.heap.size wc.heap.size (w.heap.size + 1) n n l' own strs A5 j c5 wr HLt.out HLs.out (by omega) (by omega) HBs.out (own_kept ho3 hbi) hE)
              have hbwi := hbwc.trans (hbi.mono hzc)
              cases hx : laidN l' own strs with
              | none =>
                rw [hx] at HLd HN
                have HF2 := Lib.hid (show R = none by rw [← HRes.out]; exact tabK_none_le HN.out (by omega))
                clear hx
                go_wp2_with (go_at_call 28; refine HLd.out.mono ?_; rintro e w8 ⟨h8, hn8⟩; obtain rfl := (show e = .returned (.bool false) from h8); clear h8)
                go_ret2
                rw [HF2.out]
                exact ⟨rfl, hbwi.trans (hn8.below (fun i h => by omega) hbwi.size)⟩
              | some l2 =>
                rw [hx] at HLd HN
                clear hx
                go_wp2_with (go_at_call 28; refine HLd.out.mono ?_; rintro e w8 ⟨h8, hn8⟩; obtain ⟨rfl, ho8⟩ := (show e = .returned (.bool true) ∧ w8.ownsRow w.heap.size 52 3 (.slice (some ⟨w.heap.size + 1, 0, none⟩) n n) n (l2.flatMap encS) from h8); clear h8)
                go_roundw
                case rel => exact ⟨k + 1, by omega, by go_num, l2, HN.out, ho8, hbwi.trans (hn8.below (fun i h => by omega) hbwi.size)⟩
                case measure => simp [intOf]; omega
    · obtain rfl : k = ng := by omega
      have HF2 := Lib.hid (show R = some l' by rw [← HRes.out, HK.out])
      obtain ⟨A9, c9, hA9, _, hr9⟩ := own_slice ho
      injection hA9 with hA9 _ hc9
      subst hA9 hc9
      go_wp2
      go_ret2
      rw [HF2.out]
      exact ⟨⟨_, _, rfl, HLt.out, hr9⟩, hb⟩
end Go.Proofs.Ytdmndgjfnlockaa
