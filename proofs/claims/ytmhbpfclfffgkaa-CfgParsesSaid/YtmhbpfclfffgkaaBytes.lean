/- Bytes: slices of them, made, converted and opened. -/
import Derived.Test.YtmhbpfclfffgkaaApp
import Derived.Test.YtmhbpfclfffgkaaOpen
import Derived.Laws.CopyOwn
import Derived.Laws.MakeOwn
import Derived.Laws.BytesArg
namespace Go.Proofs.Ytmhbpfclfffgkaa
set_option linter.unusedVariables false
open Go.RowKit Go.Sort Go.ChangeShapes Go.WideShapes

def encB (x : Int) : List Value := [.int .u8 x]
/-- Bytes, each in its range. -/
def BytesOk (l : List Int) : Prop := ∀ x ∈ l, 0 ≤ x ∧ x < 256
/-- The number of bytes, the highest ahead. -/
def numB (l : List Int) : Int := l.foldl (fun x c => x * 256 + c) 0
theorem numB_snoc (l : List Int) (c : Int) : numB (l ++ [c]) = numB l * 256 + c := by simp [numB]
theorem numB_bd : ∀ (n : Nat) (l : List Int), l.length = n → BytesOk l → 0 ≤ numB l ∧ numB l < 256 ^ n
  | 0, l, h, _ => by
    obtain rfl := List.eq_nil_of_length_eq_zero h
    simp [numB]
  | n + 1, l, h, hb => by
    have hne : l ≠ [] := by intro e; rw [e] at h; cases h
    have e := (List.dropLast_concat_getLast hne).symm
    rw [e] at hb ⊢
    have h1 := numB_bd n l.dropLast (by simp [h]) (fun x hx => hb x (by simp [hx]))
    have h2 := hb (l.getLast hne) (by simp)
    rw [numB_snoc, Int.pow_succ]
    omega
theorem info_u8 : (Try.prog.info? 5).map (fun i => (i.zero, i.size, i.bytes)) = some (some (.int .u8 0), 1, 1) := by kernel_rfl
theorem u8_elem : ElemInfo Try.prog 22 5 1 1 := by
  obtain ⟨i, hi, hz, hs, hb⟩ := info_parts info_u8
  exact ⟨Try.underlying22, ⟨i, _, hi, hz, hs, hb, rfl⟩, by decide⟩
theorem one_b (l : List Int) : ∀ u ∈ l.flatMap encB, u.oneCell' = true := by
  intro u hu; obtain ⟨x, _, hx⟩ := List.mem_flatMap.1 hu; simp [encB] at hx; subst hx; rfl
theorem flatB_len (l : List Int) : (l.flatMap encB).length = l.length := by rw [flatMap_length (s := 1) (fun _ => rfl)]; omega

/-- make([]byte, m, c). -/
theorem make_b (w : World) (m c : Nat) (h : m ≤ c) (hc : c ≤ 1000000000000) :
    (Instr.makeSlice 22 (.int .i64 (m : Int)) (.int .i64 (c : Int))).run Try.prog w = .ok (.slice (some ⟨w.heap.size, 0, none⟩) m c) (w.alloc (.cells (madeCells (Value.int .u8 0).cells (c * 1)) 5)) := by
  obtain ⟨i, hi, hz, hs, hb⟩ := info_parts info_u8
  have := run_make (P := Try.prog) w 22 5 i _ Try.underlying22 hi hz .i64 .i64 m c (by omega) (by omega) (by rw [hb]; omega) (by omega)
  rw [hs] at this
  simpa using this

/-- make([]byte, 0, c): the new slice is a row of the call's own. -/
theorem make_b0 (w : World) (c : Nat) (hc : c ≤ 1000000000000) :
    (Instr.makeSlice 22 (.int .i64 0) (.int .i64 (c : Int))).run Try.prog w = .ok (.slice (some ⟨w.heap.size, 0, none⟩) 0 c) (w.alloc (.cells (madeCells (Value.int .u8 0).cells (c * 1)) 5)) := make_b w 0 c (by omega) hc
theorem own_b0 (w : World) (base c : Nat) (hc : c ≤ 1000000000000) (hb : base ≤ w.heap.size) {cur : Array Value} (hs : cur.size = c) :
    (w.alloc (.cells cur 5)).ownsRow base 5 1 (.slice (some ⟨w.heap.size, 0, none⟩) 0 c) 0 [] :=
  ⟨rfl, .inr ⟨w.heap.size, c, cur, rfl, hb, heap_alloc_new w _, Nat.zero_le _, by unfold maxLen; omega, by omega, by simp⟩⟩
theorem bal' {B : Nat} {w w1 : World} (h : Below B w w1) (o : Obj) (hB : B ≤ w1.heap.size := by omega) : Below B w (w1.alloc o) := h.alloc hB o
theorem conv_str {w : World} {B n : Nat} {A : Option Addr} {l : List Int} (h : Rd w B 1 A n (l.flatMap encB)) (hl : l.length = n) (c : Nat) :
    (convert 22 9 (.slice A n c)).run Try.prog w = .ok (.string (strOfNums l)) w := by
  rcases Nat.eq_zero_or_pos n with h0 | h0
  · subst h0
    obtain rfl := List.eq_nil_of_length_eq_zero hl
    rcases A with _ | ⟨b, o, sp⟩
    · exact run_convert_bytes_nil w 22 5 Try.underlying22 Try.underlying5 0 c 9 Try.underlying9
    · rw [run_convert_bytes_string w 22 9 5 _ 0 c Try.underlying22 Try.underlying5 Try.underlying9, run_bytesToString w _ 0 c [] (by simp [loadCells, loadCellsFrom])]
      rfl
  · obtain ⟨b, o, rfl, _, hc⟩ := h.cells h0
    refine run_convert_bytes_arg w 22 5 Try.underlying22 Try.underlying5 b o n c l hl (fun i hi => ?_) 9 Try.underlying9
    rw [hc i (by omega)]
    have := flatMap_get (enc := encB) (s := 1) (fun _ => rfl) l i 0 (by omega) (by omega)
    rw [Nat.mul_one, Nat.add_zero] at this
    rw [this]
    simp [encB, List.getD_eq_getElem?_getD, show i < l.length by omega]
theorem strOfNums_inj {l1 l2 : List Int} (h1 : BytesOk l1) (h2 : BytesOk l2) (h : (strOfNums l1).toList = (strOfNums l2).toList) : l1 = l2 := by
  rw [ByteArray.toList_eq, ByteArray.toList_eq, strOfNums_data, strOfNums_data] at h
  have hl : l1.length = l2.length := by simpa using congrArg List.length h
  refine List.ext_getElem hl fun i a b => ?_
  have e := congrArg (fun l : List UInt8 => l[i]?) h
  simp only [List.getElem?_map, List.getElem?_eq_getElem a, List.getElem?_eq_getElem b, Option.map_some, Option.some.injEq] at e
  have x1 := h1 _ (List.getElem_mem a)
  have x2 := h2 _ (List.getElem_mem b)
  have := congrArg UInt8.toNat e
  simp only [UInt8.toNat_ofNat'] at this
  omega

theorem flat_u8 : flatOf Try.prog 5 5 = some [.int .u8] := by kernel_rfl
theorem flat_b {cs : List Value} (h : FlatOk [.int .u8] cs) : ∃ x : Int, cs = encB x ∧ 0 ≤ x ∧ x < 256 := by
  match cs, h with
  | [.int _ a], ⟨rfl, wa, _⟩ => exact ⟨a, rfl, wf_u8 wa⟩
set_option maxRecDepth 100000 in
theorem open_bytes {H : Type} {enc : TypeId × Value → H} {W : World} {v : Value} {d : DataW H} {p : List MemPlace} {b0 : Nat} {r : Reach}
    (hv : Value.okWide Try.prog W r b0 22 v) (h : DataW.Trod enc Try.prog W 0 (fun _ => true) true 22 v d p) (hlt : ∀ x ∈ p, x.block < W.heap.size) :
    ∃ (A : Option Addr) (n c : Nat) (l : List Int), v = .slice A n c ∧ n ≤ c ∧ n ≤ maxLen ∧ l.length = n ∧ BytesOk l ∧ Rd W W.heap.size 1 A n (l.flatMap encB) := by
  obtain ⟨A, n, cp, xss, rfl, hnc, hcm, hx, hok, hr⟩ := open_rows Try.underlying22 flat_u8 (by kernel_rfl) (by decide) hv h hlt
  obtain ⟨l, hl, hf, hb⟩ := list_of_rows (enc := encB) (ok := fun x => 0 ≤ x ∧ x < 256) xss (fun xs hxs => by obtain ⟨p, rfl, h⟩ := flat_b (hok xs hxs); exact ⟨p, rfl, h⟩)
  rw [hf] at hr
  exact ⟨A, n, cp, l, rfl, hnc, Nat.le_trans hnc hcm, hl.trans hx, hb, hr⟩
end Go.Proofs.Ytmhbpfclfffgkaa
