/- Chapter 25: the document's record read out of bytes. -/
import Derived.Test.YtjjbpiejplfbpaaPolV
import Derived.Test.YtjjbpiejplfbpaaPolRb
namespace Go.Proofs.Ytjjbpiejplfbpaa
set_option linter.unusedVariables false
open Go.RowKit Go.Sort

/-- One result, in a box of its own. -/
theorem results_cell1 {P : Program} {fn : Func} {a : Tmp} {ty : TypeId} (h : fn.results = #[.cell a ty]) {tmps : Array Value} {w : World} {b o : Nat} {cs : List Value} {d : TypeDesc} (ha : tmps.getD a undef = .pointer (some ⟨b, o, none⟩))
    (hc : w.rangeAt b o cs) (hu : P.underlying ty = some d) (hd : d.isRow = true) (hi : (P.info? ty).map (·.size) = some cs.length) : (results fn tmps).run P w = .ok (.agg cs.toArray) w := by
  have h1 := run_loadVar_mid w b o ty cs d hc hu hd hi
  have ha' : tmps[a]?.getD undef = .pointer (some ⟨b, o, none⟩) := by rw [← ha]; simp
  simp [results, h, ha', asAddr, h1]
/-- The document's number at a place, in whatever world keeps the bytes. -/
theorem refNumAt {A : Option Addr} {n c s : Nat} {l : List Int} {w : World} (hl : l.length = n) (hok : BytesOk l) (hm : n ≤ 1000000) (hs : s ≤ 8) (hr : Rd w w.heap.size 1 A n (l.flatMap encB)) {a : Nat} {i : Int} (hi : (a : Int) = i) (h : a + s ≤ n) (W : World) (hb : Below w.heap.size w W) :
    Calls Try.prog 33 #[.slice A n c, .int .i64 i, .int .i64 s, .bool false] W fun e w' => e = .returned (.tuple #[.int .u64 (nAt s l a), .bool true]) ∧ W = w' := by
  rw [← hi]
  exact refNumber_yes A n c s l a false W hl hok (by omega) hs h ((hr.below hb).more hb.size)
theorem recAt_n (l : List Int) (a : Nat) : recAt l a = ⟨nAt 4 l a, nAt 4 l (a + 4), nAt 4 l (a + 8), subB l (a + 12) 32⟩ := rfl

set_option maxRecDepth 100000 in
set_option maxHeartbeats 4000000 in
theorem refRecord_any (A : Option Addr) (n c : Nat) (l : List Int) (a : Nat) (w : World) (hl : l.length = n) (hok : BytesOk l) (hm : n ≤ 30000) (hnc : n ≤ c) (h : a + 44 ≤ n) (hr : Rd w w.heap.size 1 A n (l.flatMap encB)) :
    Calls Try.prog 34 #[.slice A n c, .int .i64 a] w fun e w' => e = .returned (.agg (recAt l a).cs.toArray) ∧ Below w.heap.size w w' := by
  obtain ⟨b, o, rfl, hb0, _⟩ := hr.2 (by omega)
  have N0 := Lib.hid (fun W hb => refNumAt (s := 4) hl hok (by omega) (by decide) hr (a := a) rfl (by omega) (c := c) W hb)
  have N4 := Lib.hid (fun W hb => refNumAt (s := 4) hl hok (by omega) (by decide) hr (a := a + 4) (i := (a : Int) + 4) (by push_cast; rfl) (by omega) (c := c) W hb)
  have N8 := Lib.hid (fun W hb => refNumAt (s := 4) hl hok (by omega) (by decide) hr (a := a + 8) (i := (a : Int) + 8) (by push_cast; rfl) (by omega) (c := c) W hb)
  simp only [Int.cast_ofNat_Int] at N0 N4 N8
  have B0 := nAt_bd (s := 4) hok (a := a) (by omega)
  have B4 := nAt_bd (s := 4) hok (a := a + 4) (by omega)
  have B8 := nAt_bd (s := 4) hok (a := a + 8) (by omega)
  have HRg := Lib.hid (hr.rangeB hl (a := a + 12) (m := 32) (by omega))
  have hRec := recAt_n l a
  have hRok := recAt_ok hok (a := a) (by omega)
  have hdl : (subB l (a + 12) 32).length = 32 := subB_len (by omega)
  rw [show (l.drop (a + 12)).take 32 = subB l (a + 12) 32 from rfl] at HRg
  generalize nAt 4 l a = x0 at *
  generalize nAt 4 l (a + 4) = x4 at *
  generalize nAt 4 l (a + 8) = x8 at *
  generalize subB l (a + 12) 32 = dg at *
  have HD := Lib.hid (show (dg.flatMap encB).length = 32 by rw [flatB_len, hdl])
  have HBl := Lib.hid (fun W => built_rec W x0 x4 x8 dg hdl)
  rw [← hRec] at HBl
  generalize recAt l a = r at *
  clear hRec hdl hr hok hl
  have B0' : 0 ≤ x0 ∧ x0 < 4294967296 := by simpa using B0
  have B4' : 0 ≤ x4 ∧ x4 < 4294967296 := by simpa using B4
  have B8' : 0 ≤ x8 ∧ x8 < 4294967296 := by simpa using B8
  clear B0 B4 B8
  have HLn := Lib.hid (Rc.len hRok)
  have hsz : r.cs.toArray.size = 35 := by simp [Rc.len hRok]
  have hfl : r.cs.length = 35 := Rc.len hRok
  obtain ⟨Z, hZ, hz0, hZi⟩ := zero_rec
  have hst := store_rec hZ hZi HLn.out (Rc.one r)
  clear hZi
  have hAr := fun W => arrayAt_run' W b (o + (a + 12)) (c - (a + 12))
  have HbA := Lib.hid (bal (Below.refl w.heap.size w) (.cells Z 69))
  have HbB := Lib.hid (bal (Below.refl w.heap.size w) (.cells r.cs.toArray 69))
  have HBr := Lib.hid (Blk.new w 69 r.cs.toArray)
  have HRz := Lib.hid (range_below HRg.out hb0 HbA.out)
  have k1 : ¬ c = a + 12 := by omega
  have k2 : (a : Int) + 44 ≤ c := by omega
  go_enter Try.func34, Try.ntmps34
  go_wp2_with (first
    | (go_at_call 33; first
        | (with_reducible refine (N0.out _ HbA.out).mono ?_; rintro e w1 ⟨rfl, rfl⟩)
        | (with_reducible refine (N4.out _ HbA.out).mono ?_; rintro e w1 ⟨rfl, rfl⟩)
        | (with_reducible refine (N8.out _ HbA.out).mono ?_; rintro e w1 ⟨rfl, rfl⟩))
    | (refine wpList_load_mid rfl 38 (.tmp 43) rfl b (o + (a + 12)) (by rfl) (dg.flatMap encB) _ HRz.out Try.underlying38 rfl (by rw [HD.out]; kernel_rfl) ?_)
    | (refine wpList_built rfl 69 #[(0, .tmp 32), (1, .tmp 34), (2, .tmp 36), (3, .tmp 44)] rfl (vals := #[(0, .int .i64 x0), (1, .int .i64 x4), (2, .int .i64 x8), (3, .agg (dg.flatMap encB).toArray)]) (by go_simp) (HBl.out _) ?_))
  refine bodyPost_ret (results_cell1 rfl (b := w.heap.size) (o := 0) (cs := r.cs) rfl (HBr.out.rangeIn fun j v hv => by rw [Nat.zero_add]; simpa using hv) Try.underlying69 rfl (by rw [HLn.out]; kernel_rfl)) rfl ⟨rfl, HbB.out⟩
end Go.Proofs.Ytjjbpiejplfbpaa
