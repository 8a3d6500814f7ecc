/- Numbers read out of bytes, at uint32 and uint64, whole: word.read, Be32, Be64. -/
import Derived.Test.YtjcklmhkdpbbdaaDoorNum
import Derived.Deep.CutRange
import Derived.Test.YtjcklmhkdpbbdaaDoorMeasC
import Derived.Test.YtjcklmhkdpbbdaaDoorParts
namespace Go.Proofs.YtjcklmhkdpbbdaaDoor
set_option linter.unusedVariables false
open Go.RowKit Go.Sort

theorem or_byte64 (x c : Int) (h0 : 0 ≤ x) (h1 : x < 72057594037927936) (k0 : 0 ≤ c) (k1 : c < 256) : bits .or .u64 (x * 256) c = x * 256 + c := or_byte x c h0 h1 k0 k1
theorem pw64 : ∀ k, k < 8 → (256 : Int) ^ k ≤ 72057594037927936 := by decide
theorem pw32 : ∀ k, k < 4 → (256 : Int) ^ k ≤ 16777216 := by decide
theorem or_byte32 (x c : Int) (h0 : 0 ≤ x) (h1 : x < 16777216) (k0 : 0 ≤ c) (k1 : c < 256) : bits .or .u32 (x * 256) c = x * 256 + c := by
  obtain ⟨x, rfl⟩ := Int.eq_ofNat_of_zero_le h0
  obtain ⟨c, rfl⟩ := Int.eq_ofNat_of_zero_le k0
  have h := u32_or_nat (x * 256) c (by omega) (by omega)
  have e := Nat.shiftLeft_add_eq_or_of_lt (i := 8) (show c < 2 ^ 8 by omega) x
  rw [Nat.shiftLeft_eq, show (2 : Nat) ^ 8 = 256 by decide] at e
  rw [← e] at h
  simpa using h
theorem gsize32_any (w : World) : Calls Tryd.prog 84 #[] w fun e w' => e = .returned (.int .i64 4) ∧ w = w' := by
  go_enter Tryd.func84, Tryd.ntmps84
  go_wp2
  all_goals (go_ret; exact ⟨rfl, rfl⟩)

set_option maxHeartbeats 1000000 in
theorem get32_no (A : Option Addr) (n c : Nat) (at_ : Int) (low : Bool) (w : World) (hm : n ≤ 1000000000) (h : at_ < 0 ∨ n < 4 ∨ (n : Int) - 4 < at_) :
    Calls Tryd.prog 80 #[.slice A n c, .int .i64 at_, .bool low] w fun e w' => e = .returned (.tuple #[.int .u32 0, .bool false]) ∧ w = w' := by
  go_enter Tryd.func80, Tryd.ntmps80
  rcases h with h | h | h
  all_goals
    go_wp2_with (go_at_call 84; refine (gsize32_any _).mono ?_; rintro e w1 ⟨rfl, rfl⟩)
    all_goals (go_ret2; exact ⟨rfl, rfl⟩)

set_option maxHeartbeats 2000000 in
theorem get32_yes (A : Option Addr) (n c : Nat) (l : List Int) (a : Nat) (low : Bool) (w : World) (hl : l.length = n) (hok : BytesOk l) (hm : n ≤ 1000000000) (h : a + 4 ≤ n) (hr : Rd w w.heap.size 1 A n (l.flatMap encB)) :
    Calls Tryd.prog 80 #[.slice A n c, .int .i64 a, .bool low] w fun e w' => e = .returned (.tuple #[.int .u32 (numB (seqN l a 4 low)), .bool true]) ∧ w = w' := by
  obtain ⟨b, o, rfl, hb, hc⟩ := hr.row (fun _ => rfl) (k := 0) (by omega) hl
  clear hc
  have hcell : ∀ j, j < n → w.cell? ⟨b, o + j, none⟩ = some (.int .u8 (l.getD j 0)) := by
    intro j hj
    obtain ⟨b', o', e, _, hc⟩ := hr.row (fun _ => rfl) (k := j) (by omega) hl
    simp only [Option.some.injEq, Addr.mk.injEq, and_true] at e
    obtain ⟨rfl, rfl⟩ := e
    have := hc 0 (by omega)
    simpa [encB, List.getD_eq_getElem?_getD, show j < l.length by omega] using this
  have hbd : ∀ j, j < n → 0 ≤ l.getD j 0 ∧ l.getD j 0 < 256 := fun j hj => hok _ (by simp [List.getD_eq_getElem?_getD, show j < l.length by omega])
  have hS : ∀ k, k < 4 → numB ((seqN l a 4 low).take (k + 1)) = numB ((seqN l a 4 low).take k) * 256 + l.getD (if low then a + (4 - 1 - k) else a + k) 0 := by
    intro k hk
    have hk' : k < (seqN l a 4 low).length := by rw [seqN_len (by omega)]; exact hk
    rw [List.take_succ_eq_append_getElem hk', numB_snoc]
    congr 1
    have := seqN_at (l := l) (a := a) (s := 4) (low := low) (by omega) hk
    rw [List.getElem?_eq_getElem hk'] at this
    rw [List.getD_eq_getElem?_getD, ← this]; rfl
  have hB : ∀ k, k < 4 → 0 ≤ numB ((seqN l a 4 low).take k) ∧ numB ((seqN l a 4 low).take k) < 16777216 := by
    intro k hk
    have hk' : ((seqN l a 4 low).take k).length = k := by rw [List.length_take, seqN_len (by omega)]; omega
    have h1 := numB_bd k _ hk' (fun x hx => seqN_ok hok x (List.mem_of_mem_take hx))
    refine ⟨h1.1, Int.lt_of_lt_of_le h1.2 ?_⟩
    exact pw32 k hk
  have hF : numB ((seqN l a 4 low).take 4) = numB (seqN l a 4 low) := by rw [List.take_of_length_le (by rw [seqN_len (by omega)]; exact Nat.le_refl _)]
  have HC := Lib.hid hcell
  have HD := Lib.hid hbd
  have HS := Lib.hid hS
  have HB := Lib.hid hB
  have HF := Lib.hid hF
  clear hcell hbd hS hB hF hr hok hl
  go_enter Tryd.func80, Tryd.ntmps80
  go_wp2_with (go_at_call 84; refine (gsize32_any _).mono ?_; rintro e w1 ⟨rfl, rfl⟩)
  go_loop [9, 10, 11, 30] (fun x _ _ i => ∃ k : Nat, k ≤ 4 ∧ i = .int .i64 k ∧ x = .int .u32 (numB ((seqN l a 4 low).take k))) (fun _ _ _ i => 4 - (intOf i).toNat)
  case atStart => exact ⟨0, by omega, rfl, rfl⟩
  case round =>
    obtain ⟨k, hk, rfl, rfl⟩ := hrel
    by_cases hlt : k < 4
    · obtain ⟨x0, x1⟩ := HB.out k hlt
      have d1 := HC.out (a + k) (by omega)
      have d2 := HC.out (a + (4 - 1 - k)) (by omega)
      obtain ⟨c0, c1⟩ := HD.out (a + k) (by omega)
      obtain ⟨c2, c3⟩ := HD.out (a + (4 - 1 - k)) (by omega)
      have hs : numB ((seqN l a 4 low).take (k + 1)) = numB ((seqN l a 4 low).take k) * 256 + (if low = true then l.getD (a + (4 - 1 - k)) 0 else l.getD (a + k) 0) := by rw [HS.out k hlt]; split <;> rfl
      generalize l.getD (a + k) 0 = y at *
      generalize l.getD (a + (4 - 1 - k)) 0 = z at *
      generalize numB ((seqN l a 4 low).take k) = x at *
      rw [show a + (4 - 1 - k) = a + (4 - 1) - k by omega] at d2
      have HZ := Lib.hid hs
      clear hs
      have HY := Lib.hid (or_byte32 x y x0 x1 c0 c1)
      have HV := Lib.hid (or_byte32 x z x0 x1 c2 c3)
      cases low
      · go_wp2
        go_round
        case rel => exact ⟨k + 1, by omega, by go_num, by rw [HZ.out, HY.out]; rfl⟩
        case measure => simp [intOf]; omega
      · go_wp2
        go_round
        case rel => exact ⟨k + 1, by omega, by go_num, by rw [HZ.out, HV.out]; rfl⟩
        case measure => simp [intOf]; omega
    · obtain rfl : k = 4 := by omega
      rw [HF.out]
      go_wp2
      go_ret2
      exact ⟨rfl, rfl⟩
set_option maxHeartbeats 1000000 in
theorem be32_yes (A : Option Addr) (n c : Nat) (l : List Int) (a : Nat) (w : World) (hl : l.length = n) (hok : BytesOk l) (hm : n ≤ 1000000000) (h : a + 4 ≤ n) (hr : Rd w w.heap.size 1 A n (l.flatMap encB)) :
    Calls Tryd.prog 71 #[.slice A n c, .int .i64 a] w fun e w' => e = .returned (.tuple #[.int .u32 (numB ((l.drop a).take 4)), .bool true]) ∧ w = w' := by
  have H := Lib.hid (get32_yes A n c l a false w hl hok hm h hr)
  clear hr hl hok h
  go_enter Tryd.func71, Tryd.ntmps71
  go_wp2_with (go_at_call 80; refine H.out.mono ?_; rintro e w1 ⟨rfl, rfl⟩)
  go_ret2
  exact ⟨rfl, rfl⟩
set_option maxHeartbeats 1000000 in
theorem be32_no (A : Option Addr) (n c : Nat) (at_ : Int) (w : World) (hm : n ≤ 1000000000) (h : at_ < 0 ∨ n < 4 ∨ (n : Int) - 4 < at_) :
    Calls Tryd.prog 71 #[.slice A n c, .int .i64 at_] w fun e w' => e = .returned (.tuple #[.int .u32 0, .bool false]) ∧ w = w' := by
  have H := Lib.hid (get32_no A n c at_ false w hm h)
  clear h
  go_enter Tryd.func71, Tryd.ntmps71
  go_wp2_with (go_at_call 80; refine H.out.mono ?_; rintro e w1 ⟨rfl, rfl⟩)
  go_ret2
  exact ⟨rfl, rfl⟩
end Go.Proofs.YtjcklmhkdpbbdaaDoor
namespace Go.Proofs.YtjcklmhkdpbbdaaDoor
set_option linter.unusedVariables false
open Go.RowKit Go.Sort

/-- A list of a length that is a number, taken apart. -/
theorem list_of (n : Nat) (l : List Int) (h : l.length = n) : l = (List.range n).map fun i => l.getD i 0 := by
  apply List.ext_getElem?
  intro i
  by_cases hi : i < n
  · simp [List.getElem?_eq_getElem (show i < l.length by omega), hi]
  · rw [List.getElem?_eq_none (by omega), List.getElem?_eq_none (by simp; omega)]
set_option maxRecDepth 100000 in
theorem built_rec (w : World) (k i e : Int) (l : List Int) (hl : l.length = 32) : (Instr.build 61 #[(0, .int .i64 k), (1, .int .i64 i), (2, .int .i64 e), (3, .agg (l.flatMap encB).toArray)]).run Tryd.prog w = .ok (.agg (Rc.cs ⟨k, i, e, l⟩).toArray) w := by
  rw [list_of 32 l hl]
  generalize (fun i => l.getD i 0) = f
  exact run_build w 61 _ _ (by kernel_rfl)
def recAt (l : List Int) (a : Nat) : Rc := ⟨numB ((l.drop a).take 4), numB ((l.drop (a + 4)).take 4), numB ((l.drop (a + 8)).take 4), (l.drop (a + 12)).take 32⟩
def recsN (l : List Int) : Nat → List Rc
  | 0 => []
  | k + 1 => recsN l k ++ [recAt l (4 + 44 * k)]
theorem recsN_len (l : List Int) : ∀ k, (recsN l k).length = k
  | 0 => rfl
  | k + 1 => by simp [recsN, recsN_len l k]
theorem recAt_ok {l : List Int} {a : Nat} (h : BytesOk l) (hl : a + 44 ≤ l.length) : RcOk (recAt l a) :=
  ⟨by simp [recAt]; omega, fun x hx => h x (List.mem_of_mem_drop (List.mem_of_mem_take hx))⟩
end Go.Proofs.YtjcklmhkdpbbdaaDoor
namespace Go.Proofs.YtjcklmhkdpbbdaaDoor
set_option linter.unusedVariables false
open Go.RowKit Go.Sort

def logN (l : List Int) : Nat := (numB (l.take 4)).toNat
def ofLogOk (l : List Int) : Bool := decide (4 ≤ l.length ∧ logN l ≤ 64 ∧ l.length = 4 + 44 * logN l) && (recsN l (logN l)).all Rc.may
def OfLogRes (l : List Int) (w : World) (e : Ending) (w' : World) : Prop :=
  (ofLogOk l = true ∧ (∃ A c, e = .returned (.tuple #[.slice A (logN l) c, .int .i64 0]) ∧ w'.ownsRow w.heap.size 61 35 (.slice A (logN l) c) (logN l) ((recsN l (logN l)).flatMap Rc.cs)) ∨ ofLogOk l = false ∧ e = .returned (.tuple #[.slice none 0 0, .int .i64 250])) ∧ Below w.heap.size w w'
theorem flatB_get : ∀ (xs : List Int) (i : Nat), (xs.flatMap encB)[i]? = (xs[i]?).map fun x => Value.int .u8 x := by
  intro xs
  induction xs with
  | nil => intro i; simp
  | cons x xs ih =>
    intro i
    cases i with
    | zero => simp [encB]
    | succ i => simpa [encB] using ih i
theorem Rd.dropB {w : World} {B n b o : Nat} {l : List Int} (h : Rd w B 1 (some ⟨b, o, none⟩) n (l.flatMap encB)) (hl : l.length = n) {a : Nat} (ha : a ≤ n) : Rd w B 1 (some ⟨b, o + a, none⟩) (n - a) ((l.drop a).flatMap encB) := by
  refine ⟨by rw [flatB_len, List.length_drop, hl]; omega, fun hn => ?_⟩
  obtain ⟨b', o', he, hb, hc⟩ := h.2 (by omega)
  simp only [Option.some.injEq, Addr.mk.injEq, and_true] at he
  obtain ⟨rfl, rfl⟩ := he
  refine ⟨b, o + a, rfl, hb, fun j u hu => ?_⟩
  rw [Nat.add_assoc]
  refine hc (a + j) u ?_
  rw [flatB_get] at hu ⊢
  rw [List.getElem?_drop] at hu
  exact hu
theorem Rd.rangeB {w : World} {B n b o : Nat} {l : List Int} (h : Rd w B 1 (some ⟨b, o, none⟩) n (l.flatMap encB)) (hl : l.length = n) {a m : Nat} (ha : a + m ≤ n) : w.rangeAt b (o + a) (((l.drop a).take m).flatMap encB) := by
  intro j v hv
  obtain ⟨b', o', he, hb, hc⟩ := h.2 (by
    have := (List.getElem?_eq_some_iff.1 hv).1
    rw [flatB_len, List.length_take] at this
    omega)
  simp only [Option.some.injEq, Addr.mk.injEq, and_true] at he
  obtain ⟨rfl, rfl⟩ := he
  rw [Nat.add_assoc]
  refine hc (a + j) v ?_
  rw [flatB_get] at hv ⊢
  rw [List.getElem?_take] at hv
  split at hv
  · rw [List.getElem?_drop] at hv; exact hv
  · cases hv
theorem arrayAt_run (w : World) (b o c : Nat) : (Instr.arrayAt 26 (.slice (some ⟨b, o, none⟩) 32 c)).run Tryd.prog w = .ok (.pointer (some ⟨b, o, none⟩)) w := by
  unfold Instr.arrayAt
  simp [go_sem]
theorem info_recb : (Tryd.prog.info? 61).map (fun i => (i.zero, i.size, i.bytes)) = some (some (.agg zRc), 35, 56) := by kernel_rfl
theorem rec_elem : ElemInfo Tryd.prog 51 61 35 56 := by
  obtain ⟨i, hi, hz, hs, hb⟩ := info_parts info_recb
  exact ⟨Tryd.underlying51, ⟨i, _, hi, hz, hs, hb, rfl⟩, by decide⟩
set_option maxRecDepth 100000 in
theorem fill_rec (cs : List Value) (hl : cs.length = 35) : Instr.fill (fun i => some (i * 35, 35)) ((Array.range (1 * 35)).map ((Value.agg zRc).cells[· % (Value.agg zRc).cells.size]!)) [(0, .agg cs.toArray)] = some cs.toArray := by
  rw [list_ofV 35 cs hl]
  generalize (fun i => cs.getD i (.bool false)) = f
  kernel_rfl
theorem slice_rec (w : World) (cs : List Value) (hl : cs.length = 35) : (Instr.buildSlice 51 1 #[(0, .agg cs.toArray)]).run Tryd.prog w = .ok (.slice (some ⟨w.heap.size, 0, none⟩) 1 1) (w.alloc (.cells cs.toArray 61)) := by
  obtain ⟨i, hi, hz, hs, hb⟩ := info_parts info_recb
  refine run_buildSlice w _ _ 1 _ cs.toArray i _ Tryd.underlying51 hi hz (by rw [hs]; decide) (by rw [hs]; decide) ?_
  rw [hs]
  exact fill_rec cs hl
theorem all_false_of_prefix {l : List Int} : ∀ {k n : Nat}, k ≤ n → (recsN l k).all Rc.may = false → (recsN l n).all Rc.may = false
  | k, n, h, hf => by
    induction n with
    | zero =>
      have h0 : k = 0 := by omega
      rw [h0] at hf
      exact hf
    | succ n ih =>
      by_cases hk : k ≤ n
      · rw [recsN, List.all_append, ih hk]; rfl
      · have h0 : k = n + 1 := by omega
        rw [h0] at hf
        exact hf
theorem numB4 {l : List Int} (h : BytesOk l) (a : Nat) (hl : a + 4 ≤ l.length) : 0 ≤ numB ((l.drop a).take 4) ∧ numB ((l.drop a).take 4) < 4294967296 := by
  have := numB_bd 4 ((l.drop a).take 4) (by simp; omega) (fun x hx => h x (List.mem_of_mem_drop (List.mem_of_mem_take hx)))
  simpa using this
theorem drop_ok {l : List Int} (h : BytesOk l) (a : Nat) : BytesOk (l.drop a) := fun x hx => h x (List.mem_of_mem_drop hx)

set_option maxRecDepth 100000 in
set_option maxHeartbeats 8000000 in
theorem ofLog_any (A : Option Addr) (n c : Nat) (l : List Int) (w : World) (hl : l.length = n) (hok : BytesOk l) (hm : n ≤ 1000000) (hnc : n ≤ c) (hr : Rd w w.heap.size 1 A n (l.flatMap encB)) :
    Calls Tryd.prog 49 #[.slice A n c] w (OfLogRes l w) := by
  by_cases h4 : n < 4
  · have HNo := Lib.hid (show ofLogOk l = false by unfold ofLogOk; rw [decide_eq_false (by omega)]; rfl)
    have H := Lib.hid (be32_no A n c 0 w (by omega) (.inr (.inl h4)))
    clear hr hl hok h4
    go_enter Tryd.func49, Tryd.ntmps49
    go_wp2_with (go_at_call 71; refine H.out.mono ?_; rintro e w1 ⟨rfl, rfl⟩)
    go_ret2
    exact ⟨.inr ⟨HNo.out, rfl⟩, Below.refl _ _⟩
  · have H := Lib.hid (be32_yes A n c l 0 w hl hok (by omega) (by omega) hr)
    obtain ⟨q0, q1⟩ := numB4 hok 0 (by omega)
    have hq : logN l = (numB ((l.drop 0).take 4)).toNat := rfl
    obtain ⟨q, hqe⟩ := Int.eq_ofNat_of_zero_le q0
    rw [hqe] at H q1 hq
    have hq : logN l = q := by rw [hq]; rfl
    clear q0 hqe
    by_cases h64 : 64 < q
    · have HNo := Lib.hid (show ofLogOk l = false by unfold ofLogOk; rw [decide_eq_false (by omega)]; rfl)
      clear hr hl hok h4 hq q1
      go_enter Tryd.func49, Tryd.ntmps49
      go_wp2_with (go_at_call 71; refine H.out.mono ?_; rintro e w1 ⟨rfl, rfl⟩)
      go_ret2
      exact ⟨.inr ⟨HNo.out, rfl⟩, Below.refl _ _⟩
    · have h64' : q ≤ 64 := by omega
      clear h64
      by_cases hn : n = 4 + 44 * q
      · have e1 : ((n : Int) != 4 + 44 * (q : Int)) = false := by rw [bne_eq_false_iff_eq]; omega
        obtain ⟨b, o, rfl, hb0, _⟩ := hr.2 (by omega)
        have HR := Lib.hid hr
        have HOK := Lib.hid hok
        have HL := Lib.hid hl
        have HQ := Lib.hid hq
        have HN := Lib.hid hn
        clear hr hok hl hq h4 q1 hn
        go_enter Tryd.func49, Tryd.ntmps49
        go_wp2_with (go_at_call 71; refine H.out.mono ?_; rintro e w1 ⟨rfl, rfl⟩)
        go_loopw [6, 38] (fun s6 i wr => ∃ k : Nat, k ≤ q ∧ i = .int .i64 k ∧ wr.ownsRow w.heap.size 61 35 s6 k ((recsN l k).flatMap Rc.cs) ∧ Hid ((recsN l k).all Rc.may = true) ∧ Below w.heap.size w wr) (fun _ i _ => q - (intOf i).toNat)
        case atStart => exact ⟨0, by omega, rfl, World.ownsRow_nil _ _ _ _, Lib.hid rfl, Below.refl _ _⟩
        case round =>
          obtain ⟨k, hk, rfl, ho, hmay, hb⟩ := hrel
          obtain ⟨A', c', rfl, hc', _⟩ := own_slice ho
          by_cases hlt : k < q
          · have hn' := HN.out
            have hlen : 4 + 44 * k + 44 ≤ n := by omega
            have ha : 4 + 44 * k ≤ n := by omega
            have hnc' : ¬ c = 4 + 44 * k := by omega
            have hB := hb.size
            have HP := Lib.hid ((((HR.out.below hb).more hB).dropB HL.out ha))
            have HPL := Lib.hid (show (l.drop (4 + 44 * k)).length = n - (4 + 44 * k) by rw [List.length_drop, HL.out])
            have hm2 : n - (4 + 44 * k) ≤ 1000000000 := by omega
            have hm3 : 44 ≤ n - (4 + 44 * k) := by omega
            have hm4 : 44 ≤ c - (4 + 44 * k) := by omega
            clear hn'
            have H0 := Lib.hid (be32_yes (some ⟨b, o + (4 + 44 * k), none⟩) (n - (4 + 44 * k)) (c - (4 + 44 * k)) _ 0 wr HPL.out (drop_ok HOK.out _) hm2 (by omega) HP.out)
            have H4 := Lib.hid (be32_yes (some ⟨b, o + (4 + 44 * k), none⟩) (n - (4 + 44 * k)) (c - (4 + 44 * k)) _ 4 wr HPL.out (drop_ok HOK.out _) hm2 (by omega) HP.out)
            have H8 := Lib.hid (be32_yes (some ⟨b, o + (4 + 44 * k), none⟩) (n - (4 + 44 * k)) (c - (4 + 44 * k)) _ 8 wr HPL.out (drop_ok HOK.out _) hm2 (by omega) HP.out)
            simp only [Int.cast_ofNat_Int] at H0 H4 H8
            have hRec : recAt l (4 + 44 * k) = ⟨numB (((l.drop (4 + 44 * k)).drop 0).take 4), numB (((l.drop (4 + 44 * k)).drop 4).take 4), numB (((l.drop (4 + 44 * k)).drop 8).take 4), (l.drop (4 + 44 * k + 12)).take 32⟩ := by
              unfold recAt; simp only [List.drop_drop, Nat.add_zero]
            have hRok := recAt_ok HOK.out (a := 4 + 44 * k) (by rw [HL.out]; exact hlen)
            have b0 := numB4 (drop_ok HOK.out (4 + 44 * k)) 0 (by rw [HPL.out]; omega)
            have b4 := numB4 (drop_ok HOK.out (4 + 44 * k)) 4 (by rw [HPL.out]; omega)
            have b8 := numB4 (drop_ok HOK.out (4 + 44 * k)) 8 (by rw [HPL.out]; omega)
            have HRg := Lib.hid (((HR.out.below hb).more hB).rangeB HL.out (a := 4 + 44 * k + 12) (m := 32) (by omega))
            have hdl : ((l.drop (4 + 44 * k + 12)).take 32).length = 32 := by simp; rw [HL.out]; omega
            have HS := Lib.hid (show recsN l (k + 1) = recsN l k ++ [recAt l (4 + 44 * k)] from rfl)
            generalize numB (((l.drop (4 + 44 * k)).drop 0).take 4) = x0 at *
            generalize numB (((l.drop (4 + 44 * k)).drop 4).take 4) = x4 at *
            generalize numB (((l.drop (4 + 44 * k)).drop 8).take 4) = x8 at *
            generalize (l.drop (4 + 44 * k + 12)).take 32 = dg at *
            have HD := Lib.hid (show (dg.flatMap encB).length = 32 by rw [flatB_len, hdl])
            have HBl := Lib.hid (built_rec wr x0 x4 x8 dg hdl)
            rw [← hRec] at HBl
            generalize recAt l (4 + 44 * k) = r at *
            clear hRec hdl
            obtain ⟨b00, b01⟩ := b0
            obtain ⟨b40, b41⟩ := b4
            obtain ⟨b80, b81⟩ := b8
            have HLn := Lib.hid (Rc.len hRok)
            have hsz : r.cs.toArray.size = 35 := by simp [Rc.len hRok]
            obtain ⟨Z, hZ, hz0, hZi⟩ := zero_rec
            have hst := store_rec hZ hZi HLn.out (Rc.one r)
            clear hZi
            have HM := Lib.hid (fun W => measMay_any r hRok W)
            have HRb : Hid (∀ W, Below (wr.alloc (.cells r.cs.toArray 61)).heap.size (wr.alloc (.cells r.cs.toArray 61)) W → W.rangeAt wr.heap.size 0 r.cs) := Lib.hid fun W hW j v hv => by
              rw [Nat.zero_add, ((Blk.new wr 61 r.cs.toArray).kept hW).cell j]; simpa using hv
            have hAr := arrayAt_run wr b (o + (4 + 44 * k) + 12) (c - (4 + 44 * k) - 12)
            have HSl := Lib.hid (fun W => slice_rec W r.cs (Rc.len hRok))
            have HMx := Lib.hid (show k + 1 ≤ maxLen by unfold maxLen; omega)
            have HMy := Lib.hid (show (k + 1) * 56 ≤ 140737488355328 by omega)
            cases hmy : r.may
            case' true =>
              have HYes := Lib.hid (show (recsN l (k + 1)).all Rc.may = true by rw [HS.out, List.all_append, hmay.out, List.all_cons, hmy]; rfl)
            case' false =>
              have HNo := Lib.hid (show ofLogOk l = false by
                unfold ofLogOk
                rw [HQ.out, all_false_of_prefix (k := k + 1) (by omega) (by rw [HS.out, List.all_append, List.all_cons, hmy, Bool.false_and, Bool.and_false]), Bool.and_false])
            all_goals
              rw [hmy] at HM
              clear hmy
              go_wp2_with (first
                | (go_at_call 71; first
                    | (with_reducible refine H0.out.mono ?_; rintro e w1 ⟨rfl, rfl⟩)
                    | (with_reducible refine H4.out.mono ?_; rintro e w1 ⟨rfl, rfl⟩)
                    | (with_reducible refine H8.out.mono ?_; rintro e w1 ⟨rfl, rfl⟩))
                | (refine wpList_load_mid rfl 26 (.tmp 69) rfl b (o + (4 + 44 * k + 12)) (by rfl) (dg.flatMap encB) _ HRg.out Tryd.underlying26 rfl (by rw [HD.out]; kernel_rfl) ?_)
                | (refine wpList_built rfl 61 #[(0, .tmp 62), (1, .tmp 64), (2, .tmp 66), (3, .tmp 70)] rfl (vals := #[(0, .int .i64 x0), (1, .int .i64 x4), (2, .int .i64 x8), (3, .agg (dg.flatMap encB).toArray)]) (by go_simp) HBl.out ?_)
                | (refine wpList_load_mid rfl 61 (.tmp 15) rfl wr.heap.size 0 (by rfl) r.cs _ (HRb.out _ (by first | exact Below.refl _ _ | assumption)) Tryd.underlying61 rfl (by rw [HLn.out]; kernel_rfl) ?_)
                | (refine wpList_builtSlice rfl 51 1 #[(0, .tmp 76)] rfl (vals := #[(0, .agg r.cs.toArray)]) (by go_simp) (HSl.out _) ?_)
                | (go_at_call 70; refine (HM.out _).mono ?_; rintro e w1 ⟨rfl, hb1⟩; have hb2 := hb.trans ((below_alloc hb1).mono hB); have ho2 := own_kept (ho.alloc _) hb1; have hz2 := hb2.size)
                | (at_builtin; refine wpList_app rec_elem rfl (.tmp 75) (.tmp 77) rfl w.heap.size (ho2.alloc _) rfl rfl (Rd.fresh _ _ _ 1 35 _ hsz) (Rc.one r) HMx.out HMy.out (by simp; omega) ?_; intro v5 w5 hown5 hb5 hgr; obtain ⟨A5, c5, rfl, _, _⟩ := own_slice hown5))
            · go_ret2
              exact ⟨.inr ⟨HNo.out, rfl⟩, hb2⟩
            · go_roundw
              case rel => exact ⟨k + 1, by omega, by go_num, by rw [HS.out, List.flatMap_append, List.flatMap_cons, List.flatMap_nil, List.append_nil]; exact hown5, HYes, (bal' hb2 _ hz2).trans hb5⟩
              case measure => simp [intOf]; omega
          · obtain rfl : k = q := by omega
            go_wp2
            go_ret2
            exact ⟨.inl ⟨by unfold ofLogOk; rw [HQ.out, hmay.out, HL.out, decide_eq_true ⟨by have := HN.out; omega, h64', HN.out⟩]; rfl, A', c', by rw [HQ.out]; rfl, by rw [HQ.out]; exact ho⟩, hb⟩
      · have HNo := Lib.hid (show ofLogOk l = false by unfold ofLogOk; rw [decide_eq_false (by omega)]; rfl)
        have e1 : ((n : Int) != 4 + 44 * (q : Int)) = true := by rw [bne_iff_ne]; omega
        clear hr hl hok h4 hq q1
        go_enter Tryd.func49, Tryd.ntmps49
        go_wp2_with (go_at_call 71; refine H.out.mono ?_; rintro e w1 ⟨rfl, rfl⟩)
        go_ret2
        exact ⟨.inr ⟨HNo.out, rfl⟩, Below.refl _ _⟩
end Go.Proofs.YtjcklmhkdpbbdaaDoor
