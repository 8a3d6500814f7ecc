/- Chapter 25: a log read out of bytes: the program's. -/
import Derived.Test.YtjjbpiejplfbpaaPolP
import Derived.Test.YtjjbpiejplfbpaaParts
namespace Go.Proofs.Ytjjbpiejplfbpaa
set_option linter.unusedVariables false
open Go.RowKit Go.Sort

def logN (l : List Int) : Nat := (numB (l.take 4)).toNat
def ofLogOk (l : List Int) : Bool := decide (4 ≤ l.length ∧ logN l ≤ 64 ∧ l.length = 4 + 44 * logN l) && (recsN l (logN l)).all Rc.may
def OfLogRes (l : List Int) (w : World) (e : Ending) (w' : World) : Prop :=
  (ofLogOk l = true ∧ (∃ A c, e = .returned (.tuple #[.slice A (logN l) c, .int .i64 0]) ∧ w'.ownsRow w.heap.size 69 35 (.slice A (logN l) c) (logN l) ((recsN l (logN l)).flatMap Rc.cs)) ∨ ofLogOk l = false ∧ e = .returned (.tuple #[.slice none 0 0, .int .i64 250])) ∧ Below w.heap.size w w'
theorem flatB_get : ∀ (xs : List Int) (i : Nat), (xs.flatMap encB)[i]? = (xs[i]?).map fun x => Value.int .u8 x := by
  intro xs
  induction xs with
  | nil => intro i; simp
  | cons x xs ih =>
    intro i
    cases i with
    | zero => simp [encB]
    | succ i => simpa [encB] using ih i
theorem Rd.dropB {w : World} {B n b o : Nat} {l : List Int} (h : Rd w B 1 (some ⟨b, o, none⟩) n (l.flatMap encB)) (hl : l.length = n) {a : Nat} (ha : a ≤ n) : Rd w B 1 (some ⟨b, o + a, none⟩) (n - a) ((l.drop a).flatMap encB) := by
  refine ⟨by rw [flatB_len, List.length_drop, hl]; omega, fun hn => ?_⟩
  obtain ⟨b', o', he, hb, hc⟩ := h.2 (by omega)
  simp only [Option.some.injEq, Addr.mk.injEq, and_true] at he
  obtain ⟨rfl, rfl⟩ := he
  refine ⟨b, o + a, rfl, hb, fun j u hu => ?_⟩
  rw [Nat.add_assoc]
  refine hc (a + j) u ?_
  rw [flatB_get] at hu ⊢
  rw [List.getElem?_drop] at hu
  exact hu
theorem Rd.rangeB {w : World} {B n b o : Nat} {l : List Int} (h : Rd w B 1 (some ⟨b, o, none⟩) n (l.flatMap encB)) (hl : l.length = n) {a m : Nat} (ha : a + m ≤ n) : w.rangeAt b (o + a) (((l.drop a).take m).flatMap encB) := by
  intro j v hv
  obtain ⟨b', o', he, hb, hc⟩ := h.2 (by
    have := (List.getElem?_eq_some_iff.1 hv).1
    rw [flatB_len, List.length_take] at this
    omega)
  simp only [Option.some.injEq, Addr.mk.injEq, and_true] at he
  obtain ⟨rfl, rfl⟩ := he
  rw [Nat.add_assoc]
  refine hc (a + j) v ?_
  rw [flatB_get] at hv ⊢
  rw [List.getElem?_take] at hv
  split at hv
  · rw [List.getElem?_drop] at hv; exact hv
  · cases hv
theorem arrayAt_run (w : World) (b o c : Nat) : (Instr.arrayAt 38 (.slice (some ⟨b, o, none⟩) 32 c)).run Try.prog w = .ok (.pointer (some ⟨b, o, none⟩)) w := by
  unfold Instr.arrayAt
  simp [go_sem]
theorem info_recb : (Try.prog.info? 69).map (fun i => (i.zero, i.size, i.bytes)) = some (some (.agg zRc), 35, 56) := by kernel_rfl
theorem rec_elem : ElemInfo Try.prog 52 69 35 56 := by
  obtain ⟨i, hi, hz, hs, hb⟩ := info_parts info_recb
  exact ⟨Try.underlying52, ⟨i, _, hi, hz, hs, hb, rfl⟩, by decide⟩
set_option maxRecDepth 100000 in
theorem fill_rec (cs : List Value) (hl : cs.length = 35) : Instr.fill (fun i => some (i * 35, 35)) ((Array.range (1 * 35)).map ((Value.agg zRc).cells[· % (Value.agg zRc).cells.size]!)) [(0, .agg cs.toArray)] = some cs.toArray := by
  rw [list_ofV 35 cs hl]
  generalize (fun i => cs.getD i (.bool false)) = f
  kernel_rfl
theorem slice_rec (w : World) (cs : List Value) (hl : cs.length = 35) : (Instr.buildSlice 52 1 #[(0, .agg cs.toArray)]).run Try.prog w = .ok (.slice (some ⟨w.heap.size, 0, none⟩) 1 1) (w.alloc (.cells cs.toArray 69)) := by
  obtain ⟨i, hi, hz, hs, hb⟩ := info_parts info_recb
  refine run_buildSlice w _ _ 1 _ cs.toArray i _ Try.underlying52 hi hz (by rw [hs]; decide) (by rw [hs]; decide) ?_
  rw [hs]
  exact fill_rec cs hl
theorem all_false_of_prefix {l : List Int} : ∀ {k n : Nat}, k ≤ n → (recsN l k).all Rc.may = false → (recsN l n).all Rc.may = false
  | k, n, h, hf => by
    induction n with
    | zero =>
      have h0 : k = 0 := by omega
      rw [h0] at hf
      exact hf
    | succ n ih =>
      by_cases hk : k ≤ n
      · rw [recsN, List.all_append, ih hk]; rfl
      · have h0 : k = n + 1 := by omega
        rw [h0] at hf
        exact hf
theorem numB4 {l : List Int} (h : BytesOk l) (a : Nat) (hl : a + 4 ≤ l.length) : 0 ≤ numB ((l.drop a).take 4) ∧ numB ((l.drop a).take 4) < 4294967296 := by
  have := numB_bd 4 ((l.drop a).take 4) (by simp; omega) (fun x hx => h x (List.mem_of_mem_drop (List.mem_of_mem_take hx)))
  simpa using this
theorem drop_ok {l : List Int} (h : BytesOk l) (a : Nat) : BytesOk (l.drop a) := fun x hx => h x (List.mem_of_mem_drop hx)

set_option maxRecDepth 100000 in
set_option maxHeartbeats 8000000 in
theorem ofLog_any (A : Option Addr) (n c : Nat) (l : List Int) (w : World) (hl : l.length = n) (hok : BytesOk l) (hm : n ≤ 1000000) (hnc : n ≤ c) (hr : Rd w w.heap.size 1 A n (l.flatMap encB)) :
    Calls Try.prog 31 #[.slice A n c] w (OfLogRes l w) := by
  by_cases h4 : n < 4
  · have HNo := Lib.hid (show ofLogOk l = false by unfold ofLogOk; rw [decide_eq_false (by omega)]; rfl)
    have H := Lib.hid (be32_no A n c 0 w (by omega) (.inr (.inl h4)))
    clear hr hl hok h4
    go_enter Try.func31, Try.ntmps31
    go_wp2_with (go_at_call 43; refine H.out.mono ?_; rintro e w1 ⟨rfl, rfl⟩)
    go_ret2
    exact ⟨.inr ⟨HNo.out, rfl⟩, Below.refl _ _⟩
  · have H := Lib.hid (be32_yes A n c l 0 w hl hok (by omega) (by omega) hr)
    obtain ⟨q0, q1⟩ := numB4 hok 0 (by omega)
    have hq : logN l = (numB ((l.drop 0).take 4)).toNat := rfl
    obtain ⟨q, hqe⟩ := Int.eq_ofNat_of_zero_le q0
    rw [hqe] at H q1 hq
    have hq : logN l = q := by rw [hq]; rfl
    clear q0 hqe
    by_cases h64 : 64 < q
    · have HNo := Lib.hid (show ofLogOk l = false by unfold ofLogOk; rw [decide_eq_false (by omega)]; rfl)
      clear hr hl hok h4 hq q1
      go_enter Try.func31, Try.ntmps31
      go_wp2_with (go_at_call 43; refine H.out.mono ?_; rintro e w1 ⟨rfl, rfl⟩)
      go_ret2
      exact ⟨.inr ⟨HNo.out, rfl⟩, Below.refl _ _⟩
    · have h64' : q ≤ 64 := by omega
      clear h64
      by_cases hn : n = 4 + 44 * q
      · have e1 : ((n : Int) != 4 + 44 * (q : Int)) = false := by rw [bne_eq_false_iff_eq]; omega
        obtain ⟨b, o, rfl, hb0, _⟩ := hr.2 (by omega)
        have HR := Lib.hid hr
        have HOK := Lib.hid hok
        have HL := Lib.hid hl
        have HQ := Lib.hid hq
        have HN := Lib.hid hn
        clear hr hok hl hq h4 q1 hn
        go_enter Try.func31, Try.ntmps31
        go_wp2_with (go_at_call 43; refine H.out.mono ?_; rintro e w1 ⟨rfl, rfl⟩)
        go_loopw [6, 38] (fun s6 i wr => ∃ k : Nat, k ≤ q ∧ i = .int .i64 k ∧ wr.ownsRow w.heap.size 69 35 s6 k ((recsN l k).flatMap Rc.cs) ∧ Hid ((recsN l k).all Rc.may = true) ∧ Below w.heap.size w wr) (fun _ i _ => q - (intOf i).toNat)
        case atStart => exact ⟨0, by omega, rfl, World.ownsRow_nil _ _ _ _, Lib.hid rfl, Below.refl _ _⟩
        case round =>
          obtain ⟨k, hk, rfl, ho, hmay, hb⟩ := hrel
          obtain ⟨A', c', rfl, hc', _⟩ := own_slice ho
          by_cases hlt : k < q
          · have hn' := HN.out
            have hlen : 4 + 44 * k + 44 ≤ n := by omega
            have ha : 4 + 44 * k ≤ n := by omega
            have hnc' : ¬ c = 4 + 44 * k := by omega
            have hB := hb.size
            have HP := Lib.hid ((((HR.out.below hb).more hB).dropB HL.out ha))
            have HPL := Lib.hid (show (l.drop (4 + 44 * k)).length = n - (4 + 44 * k) by rw [List.length_drop, HL.out])
            have hm2 : n - (4 + 44 * k) ≤ 1000000000 := by omega
            have hm3 : 44 ≤ n - (4 + 44 * k) := by omega
            have hm4 : 44 ≤ c - (4 + 44 * k) := by omega
            clear hn'
            have H0 := Lib.hid (be32_yes (some ⟨b, o + (4 + 44 * k), none⟩) (n - (4 + 44 * k)) (c - (4 + 44 * k)) _ 0 wr HPL.out (drop_ok HOK.out _) hm2 (by omega) HP.out)
            have H4 := Lib.hid (be32_yes (some ⟨b, o + (4 + 44 * k), none⟩) (n - (4 + 44 * k)) (c - (4 + 44 * k)) _ 4 wr HPL.out (drop_ok HOK.out _) hm2 (by omega) HP.out)
            have H8 := Lib.hid (be32_yes (some ⟨b, o + (4 + 44 * k), none⟩) (n - (4 + 44 * k)) (c - (4 + 44 * k)) _ 8 wr HPL.out (drop_ok HOK.out _) hm2 (by omega) HP.out)
            simp only [Int.cast_ofNat_Int] at H0 H4 H8
            have hRec : recAt l (4 + 44 * k) = ⟨numB (((l.drop (4 + 44 * k)).drop 0).take 4), numB (((l.drop (4 + 44 * k)).drop 4).take 4), numB (((l.drop (4 + 44 * k)).drop 8).take 4), (l.drop (4 + 44 * k + 12)).take 32⟩ := by
              unfold recAt; simp only [List.drop_drop, Nat.add_zero]
            have hRok := recAt_ok HOK.out (a := 4 + 44 * k) (by rw [HL.out]; exact hlen)
            have b0 := numB4 (drop_ok HOK.out (4 + 44 * k)) 0 (by rw [HPL.out]; omega)
            have b4 := numB4 (drop_ok HOK.out (4 + 44 * k)) 4 (by rw [HPL.out]; omega)
            have b8 := numB4 (drop_ok HOK.out (4 + 44 * k)) 8 (by rw [HPL.out]; omega)
            have HRg := Lib.hid (((HR.out.below hb).more hB).rangeB HL.out (a := 4 + 44 * k + 12) (m := 32) (by omega))
            have hdl : ((l.drop (4 + 44 * k + 12)).take 32).length = 32 := by simp; rw [HL.out]; omega
            have HS := Lib.hid (show recsN l (k + 1) = recsN l k ++ [recAt l (4 + 44 * k)] from rfl)
            generalize numB (((l.drop (4 + 44 * k)).drop 0).take 4) = x0 at *
            generalize numB (((l.drop (4 + 44 * k)).drop 4).take 4) = x4 at *
            generalize numB (((l.drop (4 + 44 * k)).drop 8).take 4) = x8 at *
            generalize (l.drop (4 + 44 * k + 12)).take 32 = dg at *
            have HD := Lib.hid (show (dg.flatMap encB).length = 32 by rw [flatB_len, hdl])
            have HBl := Lib.hid (built_rec wr x0 x4 x8 dg hdl)
            rw [← hRec] at HBl
            generalize recAt l (4 + 44 * k) = r at *
            clear hRec hdl
            obtain ⟨b00, b01⟩ := b0
            obtain ⟨b40, b41⟩ := b4
            obtain ⟨b80, b81⟩ := b8
            have HLn := Lib.hid (Rc.len hRok)
            have hsz : r.cs.toArray.size = 35 := by simp [Rc.len hRok]
            obtain ⟨Z, hZ, hz0, hZi⟩ := zero_rec
            have hst := store_rec hZ hZi HLn.out (Rc.one r)
            clear hZi
            have HM := Lib.hid (fun W => measMay_any r hRok W)
            have HRb : Hid (∀ W, Below (wr.alloc (.cells r.cs.toArray 69)).heap.size (wr.alloc (.cells r.cs.toArray 69)) W → W.rangeAt wr.heap.size 0 r.cs) := Lib.hid fun W hW j v hv => by
              rw [Nat.zero_add, ((Blk.new wr 69 r.cs.toArray).kept hW).cell j]; simpa using hv
            have hAr := arrayAt_run wr b (o + (4 + 44 * k) + 12) (c - (4 + 44 * k) - 12)
            have HSl := Lib.hid (fun W => slice_rec W r.cs (Rc.len hRok))
            have HMx := Lib.hid (show k + 1 ≤ maxLen by unfold maxLen; omega)
            have HMy := Lib.hid (show (k + 1) * 56 ≤ 140737488355328 by omega)
            cases hmy : r.may
            case' true =>
              have HYes := Lib.hid (show (recsN l (k + 1)).all Rc.may = true by rw [HS.out, List.all_append, hmay.out, List.all_cons, hmy]; rfl)
            case' false =>
              have HNo := Lib.hid (show ofLogOk l = false by
                unfold ofLogOk
                rw [HQ.out, all_false_of_prefix (k := k + 1) (by omega) (by rw [HS.out, List.all_append, List.all_cons, hmy, Bool.false_and, Bool.and_false]), Bool.and_false])
            all_goals
              rw [hmy] at HM
              clear hmy
              go_wp2_with (first
                | (go_at_call 43; first
                    | (with_reducible refine H0.out.mono ?_; rintro e w1 ⟨rfl, rfl⟩)
                    | (with_reducible refine H4.out.mono ?_; rintro e w1 ⟨rfl, rfl⟩)
                    | (with_reducible refine H8.out.mono ?_; rintro e w1 ⟨rfl, rfl⟩))
                | (refine wpList_load_mid rfl 38 (.tmp 69) rfl b (o + (4 + 44 * k + 12)) (by rfl) (dg.flatMap encB) _ HRg.out Try.underlying38 rfl (by rw [HD.out]; kernel_rfl) ?_)
                | (refine wpList_built rfl 69 #[(0, .tmp 62), (1, .tmp 64), (2, .tmp 66), (3, .tmp 70)] rfl (vals := #[(0, .int .i64 x0), (1, .int .i64 x4), (2, .int .i64 x8), (3, .agg (dg.flatMap encB).toArray)]) (by go_simp) HBl.out ?_)
                | (refine wpList_load_mid rfl 69 (.tmp 15) rfl wr.heap.size 0 (by rfl) r.cs _ (HRb.out _ (by first | exact Below.refl _ _ | assumption)) Try.underlying69 rfl (by rw [HLn.out]; kernel_rfl) ?_)
                | (refine wpList_builtSlice rfl 52 1 #[(0, .tmp 76)] rfl (vals := #[(0, .agg r.cs.toArray)]) (by go_simp) (HSl.out _) ?_)
                | (go_at_call 37; refine (HM.out _).mono ?_; rintro e w1 ⟨rfl, hb1⟩; have hb2 := hb.trans ((below_alloc hb1).mono hB); have ho2 := own_kept (ho.alloc _) hb1; have hz2 := hb2.size)
                | (at_builtin; refine wpList_app rec_elem rfl (.tmp 75) (.tmp 77) rfl w.heap.size (ho2.alloc _) rfl rfl (Rd.fresh _ _ _ 1 35 _ hsz) (Rc.one r) HMx.out HMy.out (by simp; omega) ?_; intro v5 w5 hown5 hb5 hgr; obtain ⟨A5, c5, rfl, _, _⟩ := own_slice hown5))
            · go_ret2
              exact ⟨.inr ⟨HNo.out, rfl⟩, hb2⟩
            · go_roundw
              case rel => exact ⟨k + 1, by omega, by go_num, by rw [HS.out, List.flatMap_append, List.flatMap_cons, List.flatMap_nil, List.append_nil]; exact hown5, HYes, (bal' hb2 _ hz2).trans hb5⟩
              case measure => simp [intOf]; omega
          · obtain rfl : k = q := by omega
            go_wp2
            go_ret2
            exact ⟨.inl ⟨by unfold ofLogOk; rw [HQ.out, hmay.out, HL.out, decide_eq_true ⟨by have := HN.out; omega, h64', HN.out⟩]; rfl, A', c', by rw [HQ.out]; rfl, by rw [HQ.out]; exact ho⟩, hb⟩
      · have HNo := Lib.hid (show ofLogOk l = false by unfold ofLogOk; rw [decide_eq_false (by omega)]; rfl)
        have e1 : ((n : Int) != 4 + 44 * (q : Int)) = true := by rw [bne_iff_ne]; omega
        clear hr hl hok h4 hq q1
        go_enter Try.func31, Try.ntmps31
        go_wp2_with (go_at_call 43; refine H.out.mono ?_; rintro e w1 ⟨rfl, rfl⟩)
        go_ret2
        exact ⟨.inr ⟨HNo.out, rfl⟩, Below.refl _ _⟩
end Go.Proofs.Ytjjbpiejplfbpaa
