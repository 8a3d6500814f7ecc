/- Chapter 25: the bytes of a log tell it: the plain law. -/
import Derived.Test.YtjcklmhkdpbbdaaDoorMeasM
namespace Go.Proofs.YtjcklmhkdpbbdaaDoor
set_option linter.unusedVariables false
open Go.RowKit Go.Sort

theorem bytesN_succ (s : Nat) (x : Int) : bytesN (s + 1) false x = bytesN s false (x / 256) ++ [x % 256] := by
  unfold bytesN
  rw [List.range_succ, List.map_append]
  congr 1
  · refine List.map_congr_left fun i hi => ?_
    have hi := List.mem_range.1 hi
    simp only [Bool.false_eq_true, if_false]
    unfold byteN
    rw [show s + 1 - 1 - i = (s - 1 - i) + 1 by omega, Nat.mul_add, Nat.mul_one, Nat.add_comm, Int.pow_add, ← Int.ediv_ediv_of_nonneg (by decide)]
    rfl
  · simp [byteN]
theorem numB_bytesN : ∀ (s : Nat) (x : Int), 0 ≤ x → x < 256 ^ s → numB (bytesN s false x) = x
  | 0, x, h0, h1 => by simp at h1; simp [bytesN, numB]; omega
  | s + 1, x, h0, h1 => by
    rw [bytesN_succ, numB_snoc, numB_bytesN s (x / 256) (by omega) (by rw [Int.pow_succ] at h1; omega)]
    omega
theorem subB_mid {l pre mid post : List Int} {a m : Nat} (hl : l = pre ++ (mid ++ post)) (ha : pre.length = a) (hm : mid.length = m) : subB l a m = mid := by
  subst hl ha hm
  unfold subB
  rw [List.drop_left, List.take_left]
theorem nAt_mid {l pre post : List Int} {s a : Nat} {x : Int} (hl : l = pre ++ (bytesN s false x ++ post)) (ha : pre.length = a) (h0 : 0 ≤ x) (h1 : x < 256 ^ s) : nAt s l a = x := by
  have := subB_mid hl ha (bytesN_len _ _ _)
  unfold nAt
  unfold subB at this
  rw [this, numB_bytesN s x h0 h1]
theorem cut32_in {x : Int} (h0 : 0 ≤ x) (h1 : x < 4294967296) : cut32 x = x := by unfold cut32; omega
theorem may_bd {r : Rc} (h : r.may = true) : (0 ≤ r.kind ∧ r.kind < 4294967296) ∧ (0 ≤ r.idx ∧ r.idx < 4294967296) ∧ 0 ≤ r.err ∧ r.err < 4294967296 := by
  have := of_decide_eq_true h
  omega
theorem rc_split {r : Rc} (h : r.may = true) : r.bytes = bytesN 4 false r.kind ++ (bytesN 4 false r.idx ++ (bytesN 4 false r.err ++ r.dig)) := by
  obtain ⟨h1, h2, h3⟩ := may_bd h
  simp [Rc.bytes, Rc.head, cut32_in h1.1 h1.2, cut32_in h2.1 h2.2, cut32_in h3.1 h3.2]
theorem recAt_mid {l pre post : List Int} {a : Nat} {r : Rc} (hl : l = pre ++ (r.bytes ++ post)) (ha : pre.length = a) (hr : RcOk r) (hm : r.may = true) : recAt l a = r := by
  obtain ⟨h1, h2, h3⟩ := may_bd hm
  rw [rc_split hm] at hl
  have e1 : nAt 4 l a = r.kind := nAt_mid (pre := pre) (by rw [hl]; simp only [List.append_assoc]; rfl) ha h1.1 h1.2
  have e2 : nAt 4 l (a + 4) = r.idx := nAt_mid (pre := pre ++ bytesN 4 false r.kind) (by rw [hl]; simp only [List.append_assoc]; rfl) (by simp [bytesN_len, ha]) h2.1 h2.2
  have e3 : nAt 4 l (a + 8) = r.err := nAt_mid (pre := pre ++ (bytesN 4 false r.kind ++ bytesN 4 false r.idx)) (by rw [hl]; simp only [List.append_assoc]; rfl) (by simp [bytesN_len, ha]) h3.1 h3.2
  have e4 : subB l (a + 12) 32 = r.dig := subB_mid (pre := pre ++ (bytesN 4 false r.kind ++ (bytesN 4 false r.idx ++ bytesN 4 false r.err))) (by rw [hl]; simp only [List.append_assoc]; rfl) (by simp [bytesN_len, ha]) hr.len
  unfold nAt at e1 e2 e3
  unfold subB at e4
  unfold recAt
  rw [e1, e2, e3, e4]
theorem flat_at {α β : Type} (f : α → List β) {l : List α} {k : Nat} (h : k < l.length) : l.flatMap f = (l.take k).flatMap f ++ (f l[k] ++ (l.drop (k + 1)).flatMap f) := by
  have := congrArg (List.flatMap f) (List.take_append_drop k l).symm
  rw [List.drop_eq_getElem_cons h, List.flatMap_append, List.flatMap_cons] at this
  exact this
theorem recsN_bytes {l : List Rc} (h : RcsOk l) (hm : l.all Rc.may = true) : ∀ k, k ≤ l.length → recsN (logBytes l) k = l.take k
  | 0, _ => by simp [recsN]
  | k + 1, hk => by
    have hx : l[k] ∈ l := List.getElem_mem _
    rw [recsN, recsN_bytes h hm k (by omega), List.take_succ_eq_append_getElem (by omega)]
    congr 2
    refine recAt_mid (pre := bytesN 4 false l.length ++ (l.take k).flatMap Rc.bytes) (post := (l.drop (k + 1)).flatMap Rc.bytes) ?_ ?_ (h _ hx) (List.all_eq_true.1 hm _ hx)
    · unfold logBytes
      rw [List.append_assoc, flat_at Rc.bytes (show k < l.length by omega)]
    · rw [List.length_append, bytesN_len]
      have h2 : RcsOk (l.take k) := fun r hr => h r (List.mem_of_mem_take hr)
      have := logBytes_len h2
      unfold logBytes at this
      rw [List.length_append, bytesN_len, List.length_take, Nat.min_eq_left (by omega)] at this
      omega
end Go.Proofs.YtjcklmhkdpbbdaaDoor
namespace Go.Proofs.YtjcklmhkdpbbdaaDoor
set_option linter.unusedVariables false
set_option linter.unusedSimpArgs false
open Go.RowKit Go.Sort

theorem bytesN_numB : ∀ (s : Nat) (l : List Int), l.length = s → BytesOk l → bytesN s false (numB l) = l
  | 0, l, h, _ => by obtain rfl := List.eq_nil_of_length_eq_zero h; rfl
  | s + 1, l, h, ho => by
    have hne : l ≠ [] := by intro e; rw [e] at h; cases h
    have e := (List.dropLast_concat_getLast hne).symm
    have hl : l.dropLast.length = s := by simp [h]
    have ho2 : BytesOk l.dropLast := fun x hx => ho x ((List.dropLast_sublist l).subset hx)
    have hx := ho _ (List.getLast_mem hne)
    have ih := bytesN_numB s l.dropLast hl ho2
    generalize l.getLast hne = x at *
    generalize l.dropLast = m at *
    rw [e, numB_snoc, bytesN_succ, show (numB m * 256 + x) / 256 = numB m by omega, show (numB m * 256 + x) % 256 = x by omega, ih]
theorem sub_ok {l : List Int} (h : BytesOk l) (a m : Nat) : BytesOk ((l.drop a).take m) := fun x hx => h x (List.mem_of_mem_drop (List.mem_of_mem_take hx))
theorem cut_num {l : List Int} (h : BytesOk l) (a : Nat) (hl : a + 4 ≤ l.length) : bytesN 4 false (cut32 (numB ((l.drop a).take 4))) = (l.drop a).take 4 := by
  have hb := numB4 h a hl
  rw [cut32_in hb.1 hb.2, bytesN_numB 4 _ (by simp; omega) (sub_ok h a 4)]
theorem rec_bytes {l : List Int} (h : BytesOk l) {a : Nat} (hl : a + 44 ≤ l.length) : (recAt l a).bytes = (l.drop a).take 44 := by
  unfold recAt Rc.bytes Rc.head
  simp only [List.flatMap_cons, List.flatMap_nil, List.append_nil]
  rw [cut_num h a (by omega), cut_num h (a + 4) (by omega), cut_num h (a + 8) (by omega)]
  rw [show (44 : Nat) = 4 + 40 from rfl, List.take_add, List.drop_drop, show (40 : Nat) = 4 + 36 from rfl, List.take_add, List.drop_drop, show a + 4 + 4 = a + 8 by omega, show (36 : Nat) = 4 + 32 from rfl, List.take_add, List.drop_drop, show a + 8 + 4 = a + 12 by omega]
  simp only [List.append_assoc]
theorem recs_bytes {l : List Int} (h : BytesOk l) : ∀ k, 4 + 44 * k ≤ l.length → (recsN l k).flatMap Rc.bytes = (l.drop 4).take (44 * k)
  | 0, _ => by simp [recsN]
  | k + 1, hk => by
    rw [recsN, List.flatMap_append, recs_bytes h k (by omega), List.flatMap_cons, List.flatMap_nil, List.append_nil, rec_bytes h (by omega), show 44 * (k + 1) = 44 * k + 44 by omega, List.take_add, List.drop_drop]
theorem log_bytes {l : List Int} (h : BytesOk l) {q : Nat} (hl : l.length = 4 + 44 * q) (hq : q ≤ 64) : logBytes (recsN l q) = l ↔ logN l = q := by
  have e : l = l.take 4 ++ (recsN l q).flatMap Rc.bytes := by
    rw [recs_bytes h q (by omega), List.take_of_length_le (l := l.drop 4) (by simp; omega), List.take_append_drop]
  have h4 : l.take 4 = (l.drop 0).take 4 := rfl
  have hb := numB4 h 0 (by omega)
  unfold logBytes
  rw [recsN_len]
  constructor
  · intro he
    have e1 : bytesN 4 false (q : Int) = l.take 4 := by
      have := congrArg (List.take 4) he
      rwa [List.take_left' (bytesN_len _ _ _)] at this
    unfold logN
    rw [← e1, numB_bytesN 4 q (by omega) (by simp; omega)]
    simp
  · intro hn
    have e1 : (q : Int) = numB (l.take 4) := by
      have hb0 : 0 ≤ numB (l.take 4) := hb.1
      unfold logN at hn; omega
    rw [e1, bytesN_numB 4 _ (by simp; omega) (by rw [h4]; exact sub_ok h 0 4)]
    exact e.symm
theorem recsN_ok {l : List Int} (h : BytesOk l) : ∀ k, 4 + 44 * k ≤ l.length → RcsOk (recsN l k)
  | 0, _ => fun r hr => by simp [recsN] at hr
  | k + 1, hk => fun r hr => by
    rw [recsN] at hr
    rcases List.mem_append.1 hr with hr | hr
    · exact recsN_ok h k (by omega) r hr
    · obtain rfl := List.mem_singleton.1 hr
      exact recAt_ok h (by omega)
set_option maxRecDepth 100000 in
set_option maxHeartbeats 4000000 in
theorem refOfLog_any (A : Option Addr) (n c : Nat) (l : List Int) (w : World) (hl : l.length = n) (hok : BytesOk l) (hm : n ≤ 100000) (hnc : n ≤ c) (hr : Rd w w.heap.size 1 A n (l.flatMap encB)) :
    Calls Tryd.prog 50 #[.slice A n c] w (OfLogRes l w) := by
  have HOK := Lib.hid hok
  have HL := Lib.hid hl
  have HR := Lib.hid hr
  clear hl hok hr
  by_cases hg : 4 ≤ n ∧ (n - 4) % 44 = 0 ∧ n ≤ 2820
  · obtain ⟨h4, h44, h28⟩ := hg
    obtain ⟨q, hq⟩ : ∃ q, n = 4 + 44 * q := ⟨(n - 4) / 44, by omega⟩
    have HQ := Lib.hid hq
    have hq64 : q ≤ 64 := by omega
    have e1 : (((n : Int) - 4) % 44 != 0) = false := by rw [bne_eq_false_iff_eq]; omega
    clear h44 hq
    go_enter Tryd.func50, Tryd.ntmps50
    go_wp2
    go_loopw [4, 5] (fun v i wr => ∃ k a : Nat, k ≤ q ∧ Hid (a = 4 + 44 * k) ∧ i = .int .i64 a ∧ ∃ A' c', v = .slice A' k c' ∧ wr.ownsRow w.heap.size 61 35 (.slice A' k c') k ((recsN l k).flatMap Rc.cs) ∧ Below w.heap.size w wr) (fun _ i _ => n - (intOf i).toNat)
    case atStart => exact ⟨0, 4, by omega, Lib.hid rfl, rfl, none, 0, rfl, World.ownsRow_nil _ _ _ _, Below.refl _ _⟩
    case round =>
      obtain ⟨k, a, hk, ha, rfl, A', c', rfl, hown, hb⟩ := hrel
      have ha2 : a ≤ 2820 := by have := ha.out; omega
      by_cases hlt : k < q
      · have hax : a + 44 ≤ n := by have := ha.out; have := HQ.out; omega
        have hlt2 : (a : Int) < (n : Int) := by omega
        have HRec := Lib.hid (refRecord_any A n c l a wr HL.out HOK.out (by omega) hnc hax ((HR.out.below hb).more hb.size))
        have hrok := recAt_ok HOK.out (a := a) (by rw [HL.out]; exact hax)
        have HS := Lib.hid (show recsN l (k + 1) = recsN l k ++ [recAt l a] by rw [recsN, ha.out])
        have HSl := Lib.hid (fun W => slice_rec W (recAt l a).cs (Rc.len hrok))
        have hsz : (recAt l a).cs.toArray.size = 35 := by simp [Rc.len hrok]
        generalize recAt l a = r at *
        have HMx := Lib.hid (show k + 1 ≤ maxLen by unfold maxLen; omega)
        have HMy := Lib.hid (show (k + 1) * 56 ≤ 140737488355328 by omega)
        have hz := hb.size
        go_wp2_with (first
          | (go_at_call 72; refine HRec.out.mono ?_; rintro e w4 ⟨rfl, hb4⟩; have hb4x := hb.trans (hb4.mono hz))
          | (refine wpList_builtSlice rfl 51 1 #[(0, .tmp 32)] rfl (vals := #[(0, .agg r.cs.toArray)]) (by go_simp) (HSl.out _) ?_)
          | (at_builtin; refine wpList_app rec_elem rfl (.tmp 29) (.tmp 33) rfl w.heap.size ((own_kept hown hb4).alloc _) rfl rfl (Rd.fresh w4 r.cs.toArray 61 1 35 w4.heap.size hsz) (Rc.one r) HMx.out HMy.out (by have := hb4x.size; simp; omega) ?_; intro v5 w5 hown5 hb5 hgr; obtain ⟨A5, c5, rfl, _, _⟩ := own_slice hown5))
        go_roundw
        case rel => exact ⟨k + 1, a + 44, by omega, Lib.hid (by have := ha.out; omega), by go_num, A5, c5, rfl, by rw [HS.out, List.flatMap_append, List.flatMap_cons, List.flatMap_nil, List.append_nil]; exact hown5, (bal' hb4x _ hb4x.size).trans hb5⟩
        case measure => simp [intOf]; omega
      · have hkq : k = q := by omega
        have hax : a = n := by have := ha.out; have := HQ.out; omega
        have hltI : ¬ (a : Int) < (n : Int) := by omega
        rw [hkq] at hown
        have hlen : l.length = 4 + 44 * q := by rw [HL.out]; exact HQ.out
        have hrok := recsN_ok HOK.out q (by omega)
        have hP := refPutLog_any A' q c' (recsN l q) wr (recsN_len l q) (by omega) hrok (Rd.of_own hown)
        have hlb := log_bytes HOK.out hlen hq64
        have hll : (logBytes (recsN l q)).length = 4 + 44 * q := by rw [logBytes_len hrok, recsN_len]
        have hbo : BytesOk (logBytes (recsN l q)) := fun x hx => by
          unfold logBytes at hx
          rcases List.mem_append.1 hx with hx | hx
          · exact bytesN_ok _ _ _ x hx
          · obtain ⟨r, hr, hx⟩ := List.mem_flatMap.1 hx
            exact Rc.bytes_ok (hrok r hr) x hx
        have hlp : lputOk (recsN l q) = (recsN l q).all Rc.may := by unfold lputOk; rw [recsN_len, decide_eq_true hq64]; rfl
        have HOwn := Lib.hid hown
        have HB := Lib.hid hb
        have HLL := Lib.hid hll
        have HRes : Hid (∀ q', logN l = q' → ofLogOk l = (decide (q' ≤ 64 ∧ n = 4 + 44 * q') && (recsN l q').all Rc.may)) := Lib.hid fun q' hq' => by
          unfold ofLogOk
          rw [hq', HL.out]
          congr 1
          exact decide_eq_decide.2 ⟨fun h => ⟨h.2.1, h.2.2⟩, fun h => ⟨h4, h.1, h.2⟩⟩
        have HLN := Lib.hid hlb
        have HOr := Lib.hid hrok
        have HBo := Lib.hid hbo
        subst hkq
        clear hown hb hlt hlb hlen hrok hbo hll ha
        cases hmy : (recsN l k).all Rc.may with
        | false =>
          rw [hmy] at hlp
          have HP : Hid (Calls Tryd.prog 48 #[.slice A' k c'] wr fun e w' => e = .returned (.tuple #[.slice none 0 0, .int .i64 250]) ∧ Below wr.heap.size wr w') := Lib.hid (hP.mono fun e w' h => by
            rcases h with ⟨⟨h1, _⟩ | ⟨_, h2⟩, h3⟩
            · rw [hlp] at h1; cases h1
            · exact ⟨h2, h3⟩)
          have HNo : Hid (ofLogOk l = false) := Lib.hid (by
            rw [HRes.out _ rfl]
            by_cases hx : logN l ≤ 64 ∧ n = 4 + 44 * logN l
            · rw [show logN l = k by have := HQ.out; omega, hmy, Bool.and_false]
            · rw [decide_eq_false hx, Bool.false_and])
          clear hP hlp hmy
          go_wp2_with (go_at_call 48; refine HP.out.mono ?_; rintro e w5 ⟨rfl, hb5⟩)
          go_ret2
          exact ⟨.inr ⟨HNo.out, rfl⟩, HB.out.trans (hb5.mono HB.out.size)⟩
        | true =>
          rw [hmy] at hlp
          have HP : Hid (Calls Tryd.prog 48 #[.slice A' k c'] wr fun e w' => ∃ A2 c2, e = .returned (.tuple #[.slice A2 (4 + 44 * k) c2, .int .i64 0]) ∧ w'.ownsRow wr.heap.size 5 1 (.slice A2 (4 + 44 * k) c2) (4 + 44 * k) ((logBytes (recsN l k)).flatMap encB) ∧ Below wr.heap.size wr w') := Lib.hid (hP.mono fun e w' h => by
            rcases h with ⟨⟨_, A2, c2, h1, h2⟩ | ⟨h1, _⟩, h3⟩
            · exact ⟨A2, c2, h1, h2, h3⟩
            · rw [hlp] at h1; cases h1)
          have HY := Lib.hid hmy
          clear hP hlp hmy
          by_cases hn : logN l = k
          · have HYes : Hid (ofLogOk l = true) := Lib.hid (by rw [HRes.out _ hn, HY.out, decide_eq_true ⟨hq64, HQ.out⟩]; rfl)
            have HN := Lib.hid hn
            have HE := Lib.hid (HLN.out.2 hn)
            clear hn
            go_wp2_with (go_at_call 48; refine HP.out.mono ?_; rintro e w5 ⟨A2, c2, rfl, hown5, hb5⟩; have s1 := conv_str (Rd.of_own hown5) HLL.out c2; have s2 := conv_str (HR.out.below (HB.out.trans (hb5.mono HB.out.size))) HL.out c; rw [HE.out] at s1; have hown6 := own_kept HOwn.out hb5)
            go_ret2
            exact ⟨.inl ⟨HYes.out, A', c', by rw [HN.out]; rfl, by rw [HN.out]; exact hown6⟩, HB.out.trans (hb5.mono HB.out.size)⟩
          · have HNo : Hid (ofLogOk l = false) := Lib.hid (by
              rw [HRes.out _ rfl, decide_eq_false (by have := HQ.out; omega), Bool.false_and])
            have hS : ((strOfNums (logBytes (recsN l k))).toList == (strOfNums l).toList) = false := by
              rw [beq_eq_false_iff_ne]; exact fun h => hn (HLN.out.1 (strOfNums_inj HBo.out HOK.out h))
            have HS := Lib.hid hS
            clear hn hS
            go_wp2_with (go_at_call 48; refine HP.out.mono ?_; rintro e w5 ⟨A2, c2, rfl, hown5, hb5⟩; have s1 := conv_str (Rd.of_own hown5) HLL.out c2; have s2 := conv_str (HR.out.below (HB.out.trans (hb5.mono HB.out.size))) HL.out c; have hne := HS.out)
            go_ret2
            exact ⟨.inr ⟨HNo.out, rfl⟩, HB.out.trans (hb5.mono HB.out.size)⟩
  · have HNo : Hid (ofLogOk l = false) := Lib.hid (by
      unfold ofLogOk
      rw [HL.out, decide_eq_false (by omega), Bool.false_and])
    have hc : n < 4 ∨ (4 ≤ n ∧ ¬ (n - 4) % 44 = 0) ∨ (4 ≤ n ∧ (n - 4) % 44 = 0 ∧ 2820 < n) := by omega
    rcases hc with h1 | ⟨h1, h2⟩ | ⟨h1, h2, h3⟩
    case' inl => have e0 : (n : Int) < 4 := by omega
    case' inr.inl =>
      have e0 : ¬ (n : Int) < 4 := by omega
      have e1 : (((n : Int) - 4) % 44 != 0) = true := by rw [bne_iff_ne]; omega
    case' inr.inr =>
      have e0 : ¬ (n : Int) < 4 := by omega
      have e1 : (((n : Int) - 4) % 44 != 0) = false := by rw [bne_eq_false_iff_eq]; omega
      have e2 : (2820 : Int) < (n : Int) := by omega
    all_goals
      clear hg
      go_enter Tryd.func50, Tryd.ntmps50
      go_wp2
      go_ret2
      exact ⟨.inr ⟨HNo.out, rfl⟩, Below.refl _ _⟩
end Go.Proofs.YtjcklmhkdpbbdaaDoor
