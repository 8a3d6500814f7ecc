/- A configuration: is it small? -/
import Derived.Test.YtmhbpfclfffgkaaConf
import Derived.Test.YtmhbpfclfffgkaaNear
import Derived.Deep.MidRow
import Derived.Deep.WholeRow
namespace Go.Proofs.Ytmhbpfclfffgkaa
set_option linter.unusedVariables false
open Go.RowKit Go.Sort

def zG : Gd := ⟨[], ByteArray.empty, false, none, 0, 0, none, 0, 0, none, 0, 0, none, 0, 0, [], []⟩
/-- The guests' rows lie in w. -/
def GRows (w : World) (A : Option Addr) (n : Nat) (gs : List Gd) : Prop := ∀ k, k < n → ∃ b o, A = some ⟨b, o, none⟩ ∧ b < w.heap.size ∧ w.rangeAt b (o + k * 79) (gs.getD k zG).cs
def GsOk (w : World) (B n : Nat) (gs : List Gd) : Prop := ∀ k, k < n → GOk w B (gs.getD k zG)
def fewG (g : Gd) : Bool := !(decide (20 < g.nW) || decide (20 < g.nD) || decide (70 < g.nI) || decide (40 < g.nS) || decide (100 < g.nm.size))
def fewN (n n2 : Nat) (gs : List Gd) : Bool := !(decide (20 < n) || decide (40 < n2)) && gs.all fewG
theorem gcs_len {w : World} {B : Nat} {g : Gd} (h : GOk w B g) : (gcs g).length = 79 := h.len

def zGc : Array Value := #[.string ByteArray.empty, .bool false, .int .u32 0, .int .u32 0, .int .u32 0, .int .u64 0, .int .u64 0] ++ Array.replicate 68 (.int .u8 0) ++ #[.slice none 0 0, .slice none 0 0, .slice none 0 0, .slice none 0 0]
theorem info_guest : (Try.prog.info? 70).map (fun i => (i.zero, i.size)) = some (some (.agg zGc), 79) := by kernel_rfl
theorem zero_guest : ∃ Z : Array Value, Z.size = 79 ∧ (∀ w, (zeroValue 70).run Try.prog w = .ok (.agg Z) w) ∧ (Try.prog.info? 70).map (·.size) = some 79 :=
  ⟨zGc, by decide +kernel, (zero_of_info info_guest).1, (zero_of_info info_guest).2⟩
/-- A guest into a block of its own, as the walk meets it. -/
theorem store_guest {Z : Array Value} (hZ : Z.size = 79) (hi : (Try.prog.info? 70).map (·.size) = some 79) {cs : List Value} (hl : cs.length = 79) (h1 : ∀ u ∈ cs, u.oneCell' = true) (w : World) :
    (storeCells ⟨w.heap.size, 0, none⟩ cs 0).run Try.prog (w.alloc (.cells Z 70)) = .ok () (w.alloc (.cells cs.toArray 70)) := by
  have := run_storeCells_new (P := Try.prog) w 70 Z cs.toArray (by simpa [hl] using hi) (by simp [hl, hZ]) (all_oneCell_toArray h1)
  simpa using this
theorem cell_guest (w : World) (cs : List Value) (j : Nat) : (w.alloc (.cells cs.toArray 70)).cell? ⟨w.heap.size, j, none⟩ = cs[j]? := by
  rw [(Blk.new w 70 cs.toArray).cell j]; simp

set_option maxRecDepth 100000 in
set_option maxHeartbeats 4000000 in
theorem fewC_any (ver : Int) (A : Option Addr) (n c : Nat) (A2 : Option Addr) (n2 c2 : Nat) (gs : List Gd) (w : World) (hl : gs.length = n) (hm : n ≤ 9223372036854775807) (hm2 : n2 ≤ 9223372036854775807) {w0 : World} {B0 : Nat} (hg : GsOk w0 B0 n gs) (hr : GRows w A n gs) :
    Calls Try.prog 16 #[.agg #[.int .u32 ver, .slice A n c, .slice A2 n2 c2]] w fun e w' => e = .returned (.bool (fewN n n2 gs)) ∧ Below w.heap.size w w' := by
  have HL := Lib.hid hl
  have HR := Lib.hid hr
  have HG := Lib.hid hg
  clear hl hr hg
  by_cases h20 : n ≤ 20 ∧ n2 ≤ 40
  · obtain ⟨hn20, hn40⟩ := h20
    have HV := Lib.hid (show fewN n n2 gs = gs.all fewG by rw [fewN, decide_eq_false (by omega), decide_eq_false (by omega)]; rfl)
    go_enter Try.func16, Try.ntmps16
    go_wp2
    refine wp_name ?_
    intro w1 hw1
    have hb1 : RowKit.Below w.heap.size w w1 := by rw [hw1]; exact bal (Below.refl _ _) _
    have hl1 : w.heap.size < w1.heap.size := by rw [hw1]; simp
    clear hw1
    go_loopw [18] (fun i wr => ∃ k : Nat, k ≤ n ∧ i = .int .i64 k ∧ Hid (∀ j, j < k → fewG (gs.getD j zG) = true) ∧ Below w.heap.size w wr) (fun i _ => n - (intOf i).toNat)
    case atStart => exact ⟨0, by omega, rfl, fun j hj => absurd hj (by omega), hb1⟩
    case round =>
      obtain ⟨k, hk, rfl, hq, hb⟩ := hrel
      by_cases hlt : k < n
      · obtain ⟨b, o, rfl, hbb, hrg⟩ := HR.out k hlt
        have hgk := HG.out k hlt
        have hrg2 : wr.rangeAt b (o + k * 79) (gs.getD k zG).cs := fun j v hv => (hb.cell (p := ⟨b, o + k * 79 + j, none⟩) hbb).trans (hrg j v hv)
        clear hrg
        generalize hgd : gs.getD k zG = gd at *
        have HRg := Lib.hid hrg2
        clear hrg2
        have hlen := hgk.len
        obtain ⟨Z, hZ, hz0, hZi⟩ := zero_guest
        have hst := store_guest hZ hZi hlen hgk.one
        have d0 := cell_guest wr gd.cs 0
        have d75 := cell_guest wr gd.cs 75
        have d76 := cell_guest wr gd.cs 76
        have d77 := cell_guest wr gd.cs 77
        have d78 := cell_guest wr gd.cs 78
        rw [hgk.c0] at d0
        rw [hgk.cW] at d75
        rw [hgk.cD] at d76
        rw [hgk.cI] at d77
        rw [hgk.cS] at d78
        have HZi := Lib.hid hZi
        have hsz : gd.cs.toArray.size = 79 := by simp [hlen]
        clear hZi
        go_wp2_with (refine wpList_load_mid rfl 70 (.tmp 20) rfl b (o + k * 79) (by rfl) gd.cs _ HRg.out Try.underlying70 rfl (by rw [hlen]; kernel_rfl) ?_)
        all_goals first
          | (refine ⟨⟨k + 1, by omega, by go_num, fun j hj => ?_, bal hb _⟩, by simp [intOf]; omega⟩
             rcases Nat.lt_or_ge j k with h1 | h1
             · exact hq.out j h1
             · obtain rfl : j = k := by omega
               rw [hgd]
               simp [fewG]
               omega)
          | (have hno : gs.all fewG = false := by
               rw [List.all_eq_false]
               refine ⟨gd, ?_, ?_⟩
               · rw [← hgd, List.getD_eq_getElem?_getD, List.getElem?_eq_getElem (by rw [HL.out]; exact hlt)]
                 exact List.getElem_mem _
               · simp [fewG]
                 omega
             go_ret
             exact ⟨by rw [HV.out, hno]; rfl, bal hb _⟩)
      · obtain rfl : k = n := by omega
        have hyes : gs.all fewG = true := by
          rw [List.all_eq_true]
          intro x hx
          obtain ⟨j, hj, rfl⟩ := List.getElem_of_mem hx
          have := hq.out j (by rw [← HL.out]; exact hj)
          rw [List.getD_eq_getElem?_getD, List.getElem?_eq_getElem hj] at this
          exact this
        have HY := Lib.hid hyes
        clear hyes
        go_wp2
        go_ret
        exact ⟨by rw [HV.out, HY.out]; rfl, hb⟩
  · have HV := Lib.hid (show fewN n n2 gs = false by
      rw [fewN]
      by_cases h1 : 20 < n
      · rw [decide_eq_true h1]; rfl
      · rw [decide_eq_true (show 40 < n2 by omega)]; simp)
    have H := Lib.hid h20
    by_cases h1 : 20 < n
    · clear h20
      go_enter Try.func16, Try.ntmps16
      go_wp2
      all_goals (go_ret; exact ⟨by rw [HV.out]; rfl, bal (Below.refl _ _) _⟩)
    · have h2 : 40 < n2 := by omega
      clear h20
      go_enter Try.func16, Try.ntmps16
      go_wp2
      all_goals (go_ret; exact ⟨by rw [HV.out]; rfl, bal (Below.refl _ _) _⟩)
end Go.Proofs.Ytmhbpfclfffgkaa
