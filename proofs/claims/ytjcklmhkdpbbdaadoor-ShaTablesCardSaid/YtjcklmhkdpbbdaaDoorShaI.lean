/- Chapter 3: bytes written into a state, walked. -/
import Derived.Test.YtjcklmhkdpbbdaaDoorShaH
namespace Go.Proofs.YtjcklmhkdpbbdaaDoor
set_option linter.unusedVariables false
set_option linter.unusedSimpArgs false
open Go.RowKit Go.Sort

theorem stCs_len {h : V8} {sm : List Int} {n : Int} {tl : List Value} (hl : sm.length = 64) : (stCs h sm n ++ tl).length = 73 + tl.length := by
  rw [stCs, List.length_append, List.length_append, List.length_append, V8.clen, flatB_len, hl]; simp
theorem stCs_n {h : V8} {sm : List Int} {n : Int} {tl : List Value} (hl : sm.length = 64) : (stCs h sm n ++ tl).toArray[72]? = some (.int .u64 n) := by
  have e : stCs h sm n ++ tl = (h.cs ++ sm.flatMap encB) ++ ([Value.int .u64 n] ++ tl) := by simp [stCs]
  have hl2 : (h.cs ++ sm.flatMap encB).length = 72 := by rw [List.length_append, V8.clen, flatB_len, hl]
  rw [List.getElem?_toArray, e, List.getElem?_append_right (by omega), hl2]
  rfl
theorem stCs_setn {h : V8} {sm : List Int} {n m : Int} {tl : List Value} (hl : sm.length = 64) : (stCs h sm n ++ tl).toArray.setIfInBounds 72 (.int .u64 m) = (stCs h sm m ++ tl).toArray := by
  have e : ∀ n : Int, stCs h sm n ++ tl = (h.cs ++ sm.flatMap encB) ++ ([Value.int .u64 n] ++ tl) := by simp [stCs]
  have hl2 : (h.cs ++ sm.flatMap encB).length = 72 := by rw [List.length_append, V8.clen, flatB_len, hl]
  rw [List.setIfInBounds_toArray, e, e, List.set_append_right _ _ (by omega), hl2]
  rfl
/-- The rest of a state, as a slice. -/
theorem stCs_some {w : World} {g : Nat} {t : TypeId} {h : V8} {sm : List Int} {n : Int} {tl : List Value} (hB : Blk w g t (stCs h sm n ++ tl).toArray) (hl : sm.length = 64) : Rd w w.heap.size 1 (some ⟨g, 8, none⟩) 64 (sm.flatMap encB) := by
  refine ⟨by rw [flatB_len, hl], fun _ => ⟨g, 8, rfl, hB.lt, fun j u hu => ?_⟩⟩
  rw [hB.cell (8 + j), List.getElem?_toArray]
  have e : stCs h sm n ++ tl = h.cs ++ (sm.flatMap encB ++ ([Value.int .u64 n] ++ tl)) := by simp [stCs]
  rw [e, List.getElem?_append_right (by rw [V8.clen]; omega), V8.clen, show 8 + j - 8 = j by omega, List.getElem?_append_left (List.getElem?_eq_some_iff.1 hu).1]
  exact hu
theorem Rd.apart_near {w w' : World} {g n : Nat} {A : Option Addr} {xs : List Value} (h : Rd w w.heap.size 1 A n xs) (hne : 0 < n → ∀ ad, A = some ad → ad.block ≠ g) (hb : Near (fun i => i = g) w w') : Rd w' w'.heap.size 1 A n xs := by
  refine ⟨h.1, fun hn => ?_⟩
  obtain ⟨b, o, rfl, hlt, hc⟩ := h.2 hn
  refine ⟨b, o, rfl, Nat.lt_of_lt_of_le hlt hb.size, fun j u hu => ?_⟩
  have hs := hb.block b hlt (hne hn _ rfl)
  rw [← hc j u hu]
  simp only [World.cell?, hs]
def WrI (v : V8) (g : Nat) (t : TypeId) (tl : List Value) (l b : List Int) (c : Nat) (w : World) (M' C' : Nat) (A' : Option Addr) (wr : World) : Prop :=
  ∃ cc : Nat, cc + M' = b.length ∧ cc + C' = c ∧ (l.length + cc) % 64 = 0 ∧ Rd wr wr.heap.size 1 A' M' ((b.drop cc).flatMap encB) ∧ (0 < M' → ∀ ad, A' = some ad → ad.block ≠ g) ∧
    ∃ h' sm', h' = hashN v (l ++ b) ((l.length + cc) / 64) ∧ sm'.length = 64 ∧ BytesOk sm' ∧ Blk wr g t (stCs h' sm' ((l.length + b.length : Nat) : Int) ++ tl).toArray ∧ Near (fun i => i = g) w wr
theorem WrI.ends {v : V8} {g : Nat} {t : TypeId} {tl : List Value} {l b : List Int} {c : Nat} {w : World} {M' C' : Nat} {A' : Option Addr} {wr : World} (hI : WrI v g t tl l b c w M' C' A' wr) (hM : M' < 64) (hok : BytesOk b) :
    ∃ h' sm' r, r.length = M' ∧ BytesOk r ∧ Rd wr wr.heap.size 1 A' M' (r.flatMap encB) ∧ sm'.length = 64 ∧ Blk wr g t (stCs h' sm' ((l.length + b.length : Nat) : Int) ++ tl).toArray ∧ Near (fun i => i = g) w wr ∧ Rep v (l ++ b) h' (splice sm' 0 r) := by
  obtain ⟨cc, h1, h2, h3, hr, hne, h', sm', e, hl, ho, hB, hn⟩ := hI
  have hrl : (b.drop cc).length = M' := by simp; omega
  have hro : BytesOk (b.drop cc) := fun x hx => hok x (List.mem_of_mem_drop hx)
  refine ⟨h', sm', b.drop cc, hrl, hro, hr, hl, hB, hn, ?_⟩
  have e1 : (l ++ b).length / 64 = (l.length + cc) / 64 := by rw [List.length_append]; omega
  have e2 : (l ++ b).length % 64 = M' := by rw [List.length_append]; omega
  have e3 : 64 * ((l.length + cc) / 64) = l.length + cc := by omega
  refine ⟨by rw [e1]; exact e, by rw [length_splice _ _ _ (by omega)]; exact hl, splice_ok ho hro, ?_⟩
  rw [e1, e2, e3]
  unfold splice
  rw [List.take_zero, List.nil_append, List.take_left' hrl, List.drop_append, List.drop_of_length_le (l := l) (by omega), List.nil_append, show l.length + cc - l.length = cc by omega]

theorem Tabs.near {w w' : World} {g : Nat} (h : Tabs w) (hb : Near (fun i => i = g) w w') (hg : 2 ≤ g) : Tabs w' := by
  have hs := h.size
  have e0 := hb.block 0 (by omega) (by omega)
  have e1 := hb.block 1 (by omega) (by omega)
  exact ⟨fun i hi => by rw [← h.first i hi]; simp only [World.cell?, e0], fun i hi => by rw [← h.rounds i hi]; simp only [World.cell?, e1], Nat.le_trans hs hb.size⟩
set_option maxRecDepth 100000 in
set_option maxHeartbeats 4000000 in
/-- The loop and what stands behind it: whole blocks, and a rest. -/
theorem write_any (v : V8) (g : Nat) (t : TypeId) (tl : List Value) (h : V8) (sm l b : List Int) (A : Option Addr) (m c : Nat) (w : World) (hR : Rep v l h sm) (hsz : l.length + m ≤ 1000000000000) (hT : Tabs w) (hg : 2 ≤ g)
    (hB : Blk w g t (stCs h sm (l.length : Int) ++ tl).toArray) (hl : b.length = m) (hok : BytesOk b) (hr : Rd w w.heap.size 1 A m (b.flatMap encB)) (hne : 0 < m → ∀ ad, A = some ad → ad.block ≠ g) (hmc : m ≤ c) :
    Calls Tryd.prog 51 #[.pointer (some ⟨g, 0, none⟩), .slice A m c] w fun e w' => e = .returned (.tuple #[]) ∧ ∃ h' sm', Rep v (l ++ b) h' sm' ∧ Blk w' g t (stCs h' sm' ((l.length + m : Nat) : Int) ++ tl).toArray ∧ Near (fun i => i = g) w w' := by
  obtain ⟨n, hn⟩ : ∃ n, l.length = n := ⟨_, rfl⟩
  obtain ⟨at_, hat⟩ : ∃ a, n % 64 = a := ⟨_, rfl⟩
  have HR := Lib.hid hR
  have HB := Lib.hid hB
  have HL := Lib.hid hl
  have HOK := Lib.hid hok
  have HRd := Lib.hid hr
  have HNe := Lib.hid hne
  have HT := Lib.hid hT
  have HN := Lib.hid hn
  have HAt := Lib.hid hat
  have HSm := Lib.hid hR.ln
  rw [hn] at HB hsz
  obtain ⟨nm, hnm⟩ : ∃ x, n + m = x := ⟨_, rfl⟩
  have HNm := Lib.hid hnm
  have q0 : (n : Int).tmod 64 = (at_ : Int) := by rw [Int.tmod_eq_emod_of_nonneg (by omega)]; omega
  have q0' : (n : Int) % 64 = (at_ : Int) := by omega
  have q1 : IntKind.i64.wrap (at_ : Int) = (at_ : Int) := IntWalk.i64_in _ (by omega)
  have q2 : IntKind.u64.wrap (m : Int) = (m : Int) := by rw [IntKind.wrap_u64]; omega
  have q3 : IntKind.u64.wrap ((n : Int) + (m : Int)) = (nm : Int) := by rw [IntKind.wrap_u64]; omega
  have c72 := (hB.cell 72).trans (stCs_n hR.ln)
  have f72 := hB.frozen
  have hat64 : (at_ : Int) < 64 := by omega
  rw [hn] at c72
  have HB1 : Hid (Blk (w.setCell ⟨g, 72, none⟩ (.int .u64 (nm : Int))) g t (stCs h sm (nm : Int) ++ tl).toArray ∧ Near (fun i => i = g) w (w.setCell ⟨g, 72, none⟩ (.int .u64 (nm : Int)))) := Lib.hid ⟨by
    have := hB.set_ 72 (.int .u64 (nm : Int))
    rw [stCs_setn hR.ln] at this
    exact this, (Near.refl (fun i => i = g) w).setCell (p := ⟨g, 72, none⟩) rfl _⟩
  clear hR hB hl hok hr hne hT hn hat hnm
  go_enter Tryd.func51, Tryd.ntmps51
  go_upto_region 2 with (fail)
  refine wp_name ?_
  intro w1 hw1
  rw [← hw1] at HB1
  clear hw1 c72 f72 q0 q0' q1 q2 q3
  by_cases h0 : at_ = 0
  · have HI0 : Hid (WrI v g t tl l b c w m c A w1) := Lib.hid (by
      have hn := HN.out
      have ha := HAt.out
      have hl := HL.out
      refine ⟨0, by omega, by omega, by omega, ?_, HNe.out, h, sm, ?_, HSm.out, HR.out.ok, ?_, HB1.out.2⟩
      · rw [List.drop_zero]; exact HRd.out.apart_near HNe.out HB1.out.2
      · rw [Nat.add_zero, hashN_app _ _ _ _ (by omega)]; exact HR.out.hs
      · rw [hl, hn, HNm.out]; exact HB1.out.1)
    have hz : (at_ : Int) = 0 := by omega
    have hatI : ¬ (0 : Int) < (at_ : Int) := by omega
    clear hat64
    go_wp2
    go_loopw [1] (fun x wr => ∃ (M' C' : Nat) (A' : Option Addr), x = .slice A' M' C' ∧ Hid (WrI v g t tl l b c w M' C' A' wr)) (fun x _ => slen x)
    case atStart => exact ⟨_, _, _, rfl, HI0⟩
    case round =>
      obtain ⟨M', C', A', rfl, HI⟩ := hrel
      clear HI0
      by_cases hlt : 64 ≤ M'
      · obtain ⟨cc, h1, h2, h3, hr, hne, h', sm', e, hl', ho', hB', hn'⟩ := HI.out
        have hbl := HL.out
        have hnl := HN.out
        have hnm := HNm.out
        have hbl2 : ((b.drop cc).take 64).length = 64 := by simp; omega
        have hbo : BytesOk ((b.drop cc).take 64) := fun x hx => HOK.out x (List.mem_of_mem_drop (List.mem_of_mem_take hx))
        have hfr := hr.front (k := 64) hlt
        rw [show ((b.drop cc).flatMap encB).take (64 * 1) = ((b.drop cc).take 64).flatMap encB by
          have := congrArg (List.take 64) (congrArg (List.flatMap encB) (List.take_append_drop 64 (b.drop cc))).symm
          rw [List.flatMap_append, List.take_left' (by rw [flatB_len]; exact hbl2)] at this
          exact this] at hfr
        have HBk := Lib.hid (block_any g t tl h' sm' ((l.length + b.length : Nat) : Int) A' C' ((b.drop cc).take 64) wr hl' (by omega) (HT.out.near hn' hg) hg hB' hbl2 hbo hfr)
        have hk : blkV h' ((b.drop cc).take 64) = hashN v (l ++ b) ((l.length + (cc + 64)) / 64) := by
          rw [show (l.length + (cc + 64)) / 64 = (l.length + cc) / 64 + 1 by omega, hashN, ← e]
          congr 2
          rw [show 64 * ((l.length + cc) / 64) = l.length + cc by omega, List.drop_append, List.drop_of_length_le (l := l) (by omega), List.nil_append, show l.length + cc - l.length = cc by omega]
        obtain ⟨ba, o, rfl, hlt2, hcs⟩ := hr.2 (by omega)
        have HCut : Hid (∀ w2, Blk w2 g t (stCs (blkV h' ((b.drop cc).take 64)) sm' ((l.length + b.length : Nat) : Int) ++ tl).toArray → Near (fun i => i = g) wr w2 → WrI v g t tl l b c w (M' - 64) (C' - 64) (some (if C' = 64 then ⟨ba, o, none⟩ else ⟨ba, o + 64, none⟩)) w2) := Lib.hid fun w2 hB2 hn2 => by
          refine ⟨cc + 64, by omega, by omega, by omega, ?_, fun _ ad had => ?_, _, sm', hk, hl', ho', hB2, hn'.trans hn2⟩
          · refine ⟨by rw [flatB_len]; simp; omega, fun hp => ⟨ba, o + 64, by rw [if_neg (by omega)], Nat.lt_of_lt_of_le hlt2 hn2.size, fun j u hu => ?_⟩⟩
            have hs2 := hn2.block ba hlt2 (hne (by omega) _ rfl)
            have := hcs (64 + j) u (by
              rw [← hu, ← List.drop_drop]
              have e2 : ((b.drop cc).drop 64).flatMap encB = ((b.drop cc).flatMap encB).drop 64 := by
                have := congrArg (List.drop 64) (congrArg (List.flatMap encB) (List.take_append_drop 64 (b.drop cc))).symm
                rw [List.flatMap_append, List.drop_left' (by rw [flatB_len]; exact hbl2)] at this
                exact this.symm
              rw [e2, List.getElem?_drop])
            rw [← this, Nat.add_assoc]
            simp only [World.cell?, hs2]
          · obtain rfl := Option.some.inj had
            have := hne (by omega) _ rfl
            split <;> exact this
        have HM' := Lib.hid (show M' ≤ 1000000000000 ∧ M' ≤ C' by omega)
        have k1 : (64 : Int) ≤ (M' : Int) := by omega
        have k2 : (64 : Int) ≤ (C' : Int) := by omega
        have k3 : (M' : Int) ≤ (C' : Int) := by omega
        have k4 : M' ≤ C' := by omega
        have k5 : 64 ≤ C' := by omega
        have HNl := Lib.hid hnm
        clear h1 h2 h3 hr hne e hl' ho' hB' hn' hbl hnl hnm hbl2 hbo hfr hk hlt2 hcs HI
        go_upto_region 9 with (go_at_call 56; refine HBk.out.mono ?_; rintro e w2 ⟨rfl, hB2, hn2⟩)
        have HI2 := Lib.hid (HCut.out w2 hB2 hn2)
        clear HBk HCut hB2 hn2
        by_cases hcap : C' = 64
        · rw [if_pos hcap, show C' - 64 = 0 by omega] at HI2
          have hcapI : (C' : Int) = 64 := by omega
          go_wp2
          go_roundw
          case rel => exact ⟨_, _, _, rfl, HI2⟩
          case measure => simp [slen]; omega
        · rw [if_neg hcap] at HI2
          have hcapI : ¬ (C' : Int) = 64 := by omega
          go_wp2
          go_roundw
          case rel => exact ⟨_, _, _, rfl, HI2⟩
          case measure => simp [slen]; omega
      · obtain ⟨h', sm', r, hrl, hro, hr, hl', hB', hn', hR'⟩ := HI.out.ends (by omega) HOK.out
        have hM : ¬ (64 : Int) ≤ (M' : Int) := by omega
        have hM64 : M' < 64 := by omega
        have hne : 0 < M' → ∀ ad, A' = some ad → ad.block ≠ g := by
          obtain ⟨_, _, _, _, _, hne, _⟩ := HI.out
          exact hne
        have HSZ := Lib.hid (show (Tryd.prog.info? 5).map (·.size) = some 1 by kernel_rfl)
        have HLn := Lib.hid (show (r.flatMap encB).length = Nat.min M' 64 by rw [flatB_len, hrl]; exact (Nat.min_eq_left (by omega)).symm)
        have HFit := Lib.hid (show 8 + (r.flatMap encB).length ≤ (stCs h' sm' ((l.length + b.length : Nat) : Int) ++ tl).length by rw [stCs_len hl', flatB_len]; omega)
        have HPos : Hid (0 < (r.flatMap encB).length → ∃ ad, A' = some ad ∧ ∀ j u, (r.flatMap encB)[j]? = some u → wr.cell? (ad.add j) = some u) := Lib.hid fun hp => by
          have := rd_pos (d := (some (⟨g, 8, none⟩ : Addr))) hr (by rw [flatB_len, hrl]; exact id) hp
          exact this.2
        have HB' := Lib.hid hB'
        have HN' := Lib.hid hn'
        have HR' := Lib.hid hR'
        have HSp := Lib.hid (stCs_splice h' (sm := sm') (xs := r) ((l.length + b.length : Nat) : Int) tl (at_ := 0) (by omega))
        have HNl := Lib.hid (show l.length + b.length = nm by have := HL.out; have := HN.out; have := HNm.out; omega)
        rw [HNl.out] at HB' HSp HFit
        clear hrl hro hr hl' hB' hn' hR' hne HI hlt
        go_wp2_with (refine wpList_copy_blk (by rfl) (.tmp 56) (.tmp 57) _ _ (by rfl) 5 Tryd.underlying29 HSZ.out (some ⟨g, 8, none⟩) A' 64 64 M' C' (by rfl) (by rfl) g 8 (stCs h' sm' (nm : Int) ++ tl) t HB'.out (r.flatMap encB) HLn.out (fun hp => ⟨rfl, HPos.out hp⟩) HFit.out (one_b r) ?_; intro w3 hB3 hn3)
        go_end0
        refine ⟨rfl, h', splice sm' 0 r, HR'.out, ?_, HN'.out.trans hn3⟩
        have := hB3.out
        rw [show (8 : Nat) = 8 + 0 from rfl, HSp.out] at this
        rw [show ((l.length : Int) + (m : Int)) = (nm : Int) by have := HNm.out; have := HN.out; omega]
        exact this
  · have hatI : (0 : Int) < (at_ : Int) := by omega
    have hatn : at_ < 64 := by omega
    have hatl : (at_ : Int) ≤ 64 := by omega
    obtain ⟨k, hk⟩ : ∃ k, Nat.min m (64 - at_) = k := ⟨_, rfl⟩
    have HKm := Lib.hid (show k ≤ m ∧ k ≤ 64 - at_ ∧ (k = m ∨ k = 64 - at_) by
      rcases Nat.le_total m (64 - at_) with h | h
      · rw [show Nat.min m (64 - at_) = m from Nat.min_eq_left h] at hk; omega
      · rw [show Nat.min m (64 - at_) = 64 - at_ from Nat.min_eq_right h] at hk; omega)
    have HSZ := Lib.hid (show (Tryd.prog.info? 5).map (·.size) = some 1 by kernel_rfl)
    have HTk := Lib.hid (show (b.take k).length = k by rw [List.length_take, HL.out]; have := HKm.out; omega)
    have HLn := Lib.hid (show ((b.take k).flatMap encB).length = Nat.min m (64 - at_) by rw [flatB_len, HTk.out, hk])
    have HFit := Lib.hid (show 8 + at_ + ((b.take k).flatMap encB).length ≤ (stCs h sm (nm : Int) ++ tl).length by rw [stCs_len HSm.out, flatB_len, HTk.out]; have := HKm.out; omega)
    have HPos : Hid (0 < ((b.take k).flatMap encB).length → ∃ ad, A = some ad ∧ ∀ j u, ((b.take k).flatMap encB)[j]? = some u → w1.cell? (ad.add j) = some u) := Lib.hid fun hp => by
      have hfr := (HRd.out.apart_near HNe.out HB1.out.2).front (k := k) HKm.out.1
      have e : (b.flatMap encB).take (k * 1) = (b.take k).flatMap encB := by
        have := congrArg (List.take k) (congrArg (List.flatMap encB) (List.take_append_drop k b)).symm
        rw [List.flatMap_append, List.take_left' (by rw [flatB_len]; exact HTk.out)] at this
        rw [Nat.mul_one]; exact this
      rw [e] at hfr
      exact (rd_pos (d := (some (⟨g, 8 + at_, none⟩ : Addr))) hfr (by rw [flatB_len, HTk.out]; exact id) hp).2
    have HSp := Lib.hid (stCs_splice h (sm := sm) (xs := b.take k) (nm : Int) tl (at_ := at_) (by rw [HTk.out, HSm.out]; have := HKm.out; omega))
    have hlk : ((b.take k).flatMap encB).length = k := by rw [flatB_len, HTk.out]
    have k0 : (k : Int) ≤ (m : Int) := by have := HKm.out; omega
    have k1 : (m : Int) ≤ (c : Int) := by omega
    have k2 : k ≤ m := HKm.out.1
    clear hk
    go_upto_region 4 with (refine wpList_copy_blk (by rfl) (.tmp 28) (.tmp 29) _ _ (by rfl) 5 Tryd.underlying29 HSZ.out (some ⟨g, 8 + at_, none⟩) A (64 - at_) (64 - at_) m c (by rfl) (by rfl) g (8 + at_) (stCs h sm (nm : Int) ++ tl) t HB1.out.1 ((b.take k).flatMap encB) HLn.out (fun hp => ⟨rfl, HPos.out hp⟩) HFit.out (one_b _) ?_; intro w3 hB3 hn3)
    have HB3 : Hid (Blk w3 g t (stCs h (splice sm at_ (b.take k)) (nm : Int) ++ tl).toArray ∧ Near (fun i => i = g) w w3) := Lib.hid ⟨by
      have := hB3.out
      rw [HSp.out] at this
      exact this, HB1.out.2.trans hn3⟩
    clear hB3 hn3 HSp HPos HFit HLn hlk HB1
    go_upto_region 5 with (fail)
    generalize hA2 : (if c = k then A else Option.map (fun x => x.add k) A) = A2
    have HA2 := Lib.hid hA2
    clear hA2
    by_cases hf : at_ + k < 64
    · have hs : IntKind.i64.wrap ((at_ : Int) + (k : Int)) = (at_ : Int) + (k : Int) := IntWalk.i64_in _ (by omega)
      have hfI : (at_ : Int) + (k : Int) < 64 := by omega
      have hkm : k = m := by have := HKm.out; omega
      have HFin : Hid (Rep v (l ++ b) h (splice sm at_ (b.take k))) := Lib.hid (by
        have hl := HL.out
        have := HR.out.short HOK.out (by rw [HN.out, HAt.out]; omega)
        rw [HN.out, HAt.out] at this
        rw [List.take_of_length_le (by omega)]
        exact this)
      clear hkm
      go_wp2
      refine bodyPost_ret (results_none rfl _ _ _) rfl ?_
      refine ⟨rfl, _, _, HFin.out, ?_, HB3.out.2⟩
      rw [show ((l.length + m : Nat) : Int) = (nm : Int) by have := HNm.out; have := HN.out; omega]
      exact HB3.out.1
    · have hs : IntKind.i64.wrap ((at_ : Int) + (k : Int)) = (at_ : Int) + (k : Int) := IntWalk.i64_in _ (by omega)
      have hfI : ¬ (at_ : Int) + (k : Int) < 64 := by omega
      have HF := Lib.hid (HR.out.fills (b := b) (k := k) (by rw [HN.out, HAt.out]; have := HKm.out; omega) (by rw [HL.out]; exact HKm.out.1))
      rw [HN.out, HAt.out] at HF
      have HSl := Lib.hid (show (splice sm at_ (b.take k)).length = 64 by rw [length_splice _ _ _ (by rw [HTk.out, HSm.out]; have := HKm.out; omega)]; exact HSm.out)
      have HSo := Lib.hid (splice_ok (k := at_) HR.out.ok (fun x hx => HOK.out x (List.mem_of_mem_take hx) : BytesOk (b.take k)))
      have HBk := Lib.hid (block_any g t tl h (splice sm at_ (b.take k)) (nm : Int) (some ⟨g, 8, none⟩) 64 (splice sm at_ (b.take k)) w3 HSl.out (by have := HNm.out; omega) (HT.out.near HB3.out.2 hg) hg HB3.out.1 HSl.out HSo.out (stCs_some HB3.out.1 HSl.out))
      have HI1 : Hid (∀ w4, Blk w4 g t (stCs (blkV h (splice sm at_ (b.take k))) (splice sm at_ (b.take k)) (nm : Int) ++ tl).toArray → Near (fun i => i = g) w3 w4 → WrI v g t tl l b c w (m - k) (c - k) A2 w4) := Lib.hid fun w4 hB4 hn4 => by
        rw [← HA2.out]
        have hl := HL.out
        have hn := HN.out
        have ha := HAt.out
        have hkm := HKm.out
        refine ⟨k, by omega, by omega, by omega, ?_, fun hmk ad had => ?_, blkV h (splice sm at_ (b.take k)), splice sm at_ (b.take k), ?_, HSl.out, HSo.out, ?_, HB3.out.2.trans hn4⟩
        · have h1 := ((HRd.out.apart_near HNe.out (HB3.out.2.trans hn4)).cut (k := k) (cap := c) hkm.1 hmc)
          rw [Nat.mul_one] at h1
          have e : (b.flatMap encB).drop k = (b.drop k).flatMap encB := by
            have := congrArg (List.drop k) (congrArg (List.flatMap encB) (List.take_append_drop k b).symm)
            rw [List.flatMap_append, List.drop_left' (by rw [flatB_len]; exact HTk.out)] at this
            exact this
          rw [e] at h1
          exact h1
        · split at had
          · exact HNe.out (by omega) ad had
          · obtain ⟨ad0, h0, rfl⟩ := Option.map_eq_some_iff.1 had
            have := HNe.out (by omega) ad0 h0
            unfold Addr.add
            split <;> exact this
        · rw [HN.out]; exact HF.out.2
        · rw [hl, hn, HNm.out]; exact hB4
      go_upto_region 7 with (go_at_call 56; refine HBk.out.mono ?_; rintro e w4 ⟨rfl, hB4, hn4⟩)
      have HI0 := Lib.hid (HI1.out w4 hB4 hn4)
      clear HI1 HBk hB4 hn4 hs hfI hf k0 k2 HTk
      go_wp2
      go_loopw [1] (fun x wr => ∃ (M' C' : Nat) (A' : Option Addr), x = .slice A' M' C' ∧ Hid (WrI v g t tl l b c w M' C' A' wr)) (fun x _ => slen x)
      case atStart => exact ⟨_, _, _, rfl, HI0⟩
      case round =>
        obtain ⟨M', C', A', rfl, HI⟩ := hrel
        clear HI0
        by_cases hlt : 64 ≤ M'
        · obtain ⟨cc, h1, h2, h3, hr, hne, h', sm', e, hl', ho', hB', hn'⟩ := HI.out
          have hbl := HL.out
          have hnl := HN.out
          have hnm := HNm.out
          have hbl2 : ((b.drop cc).take 64).length = 64 := by simp; omega
          have hbo : BytesOk ((b.drop cc).take 64) := fun x hx => HOK.out x (List.mem_of_mem_drop (List.mem_of_mem_take hx))
          have hfr := hr.front (k := 64) hlt
          rw [show ((b.drop cc).flatMap encB).take (64 * 1) = ((b.drop cc).take 64).flatMap encB by
            have := congrArg (List.take 64) (congrArg (List.flatMap encB) (List.take_append_drop 64 (b.drop cc))).symm
            rw [List.flatMap_append, List.take_left' (by rw [flatB_len]; exact hbl2)] at this
            exact this] at hfr
          have HBk := Lib.hid (block_any g t tl h' sm' ((l.length + b.length : Nat) : Int) A' C' ((b.drop cc).take 64) wr hl' (by omega) (HT.out.near hn' hg) hg hB' hbl2 hbo hfr)
          have hk : blkV h' ((b.drop cc).take 64) = hashN v (l ++ b) ((l.length + (cc + 64)) / 64) := by
            rw [show (l.length + (cc + 64)) / 64 = (l.length + cc) / 64 + 1 by omega, hashN, ← e]
            congr 2
            rw [show 64 * ((l.length + cc) / 64) = l.length + cc by omega, List.drop_append, List.drop_of_length_le (l := l) (by omega), List.nil_append, show l.length + cc - l.length = cc by omega]
          obtain ⟨ba, o, rfl, hlt2, hcs⟩ := hr.2 (by omega)
          have HCut : Hid (∀ w2, Blk w2 g t (stCs (blkV h' ((b.drop cc).take 64)) sm' ((l.length + b.length : Nat) : Int) ++ tl).toArray → Near (fun i => i = g) wr w2 → WrI v g t tl l b c w (M' - 64) (C' - 64) (some (if C' = 64 then ⟨ba, o, none⟩ else ⟨ba, o + 64, none⟩)) w2) := Lib.hid fun w2 hB2 hn2 => by
            refine ⟨cc + 64, by omega, by omega, by omega, ?_, fun _ ad had => ?_, _, sm', hk, hl', ho', hB2, hn'.trans hn2⟩
            · refine ⟨by rw [flatB_len]; simp; omega, fun hp => ⟨ba, o + 64, by rw [if_neg (by omega)], Nat.lt_of_lt_of_le hlt2 hn2.size, fun j u hu => ?_⟩⟩
              have hs2 := hn2.block ba hlt2 (hne (by omega) _ rfl)
              have := hcs (64 + j) u (by
                rw [← hu, ← List.drop_drop]
                have e2 : ((b.drop cc).drop 64).flatMap encB = ((b.drop cc).flatMap encB).drop 64 := by
                  have := congrArg (List.drop 64) (congrArg (List.flatMap encB) (List.take_append_drop 64 (b.drop cc))).symm
                  rw [List.flatMap_append, List.drop_left' (by rw [flatB_len]; exact hbl2)] at this
                  exact this.symm
                rw [e2, List.getElem?_drop])
              rw [← this, Nat.add_assoc]
              simp only [World.cell?, hs2]
            · obtain rfl := Option.some.inj had
              have := hne (by omega) _ rfl
              split <;> exact this
          have HM' := Lib.hid (show M' ≤ 1000000000000 ∧ M' ≤ C' by omega)
          have k1 : (64 : Int) ≤ (M' : Int) := by omega
          have k2 : (64 : Int) ≤ (C' : Int) := by omega
          have k3 : (M' : Int) ≤ (C' : Int) := by omega
          have k4 : M' ≤ C' := by omega
          have k5 : 64 ≤ C' := by omega
          have HNl := Lib.hid hnm
          clear h1 h2 h3 hr hne e hl' ho' hB' hn' hbl hnl hnm hbl2 hbo hfr hk hlt2 hcs HI
          go_upto_region 9 with (go_at_call 56; refine HBk.out.mono ?_; rintro e w2 ⟨rfl, hB2, hn2⟩)
          have HI2 := Lib.hid (HCut.out w2 hB2 hn2)
          clear HBk HCut hB2 hn2
          by_cases hcap : C' = 64
          · rw [if_pos hcap, show C' - 64 = 0 by omega] at HI2
            have hcapI : (C' : Int) = 64 := by omega
            go_wp2
            go_roundw
            case rel => exact ⟨_, _, _, rfl, HI2⟩
            case measure => simp [slen]; omega
          · rw [if_neg hcap] at HI2
            have hcapI : ¬ (C' : Int) = 64 := by omega
            go_wp2
            go_roundw
            case rel => exact ⟨_, _, _, rfl, HI2⟩
            case measure => simp [slen]; omega
        · obtain ⟨h', sm', r, hrl, hro, hr, hl', hB', hn', hR'⟩ := HI.out.ends (by omega) HOK.out
          have hM : ¬ (64 : Int) ≤ (M' : Int) := by omega
          have hM64 : M' < 64 := by omega
          have hne : 0 < M' → ∀ ad, A' = some ad → ad.block ≠ g := by
            obtain ⟨_, _, _, _, _, hne, _⟩ := HI.out
            exact hne
          have HSZ := Lib.hid (show (Tryd.prog.info? 5).map (·.size) = some 1 by kernel_rfl)
          have HLn := Lib.hid (show (r.flatMap encB).length = Nat.min M' 64 by rw [flatB_len, hrl]; exact (Nat.min_eq_left (by omega)).symm)
          have HFit := Lib.hid (show 8 + (r.flatMap encB).length ≤ (stCs h' sm' ((l.length + b.length : Nat) : Int) ++ tl).length by rw [stCs_len hl', flatB_len]; omega)
          have HPos : Hid (0 < (r.flatMap encB).length → ∃ ad, A' = some ad ∧ ∀ j u, (r.flatMap encB)[j]? = some u → wr.cell? (ad.add j) = some u) := Lib.hid fun hp => by
            have := rd_pos (d := (some (⟨g, 8, none⟩ : Addr))) hr (by rw [flatB_len, hrl]; exact id) hp
            exact this.2
          have HB' := Lib.hid hB'
          have HN' := Lib.hid hn'
          have HR' := Lib.hid hR'
          have HSp := Lib.hid (stCs_splice h' (sm := sm') (xs := r) ((l.length + b.length : Nat) : Int) tl (at_ := 0) (by omega))
          have HNl := Lib.hid (show l.length + b.length = nm by have := HL.out; have := HN.out; have := HNm.out; omega)
          rw [HNl.out] at HB' HSp HFit
          clear hrl hro hr hl' hB' hn' hR' hne HI hlt
          go_wp2_with (refine wpList_copy_blk (by rfl) (.tmp 56) (.tmp 57) _ _ (by rfl) 5 Tryd.underlying29 HSZ.out (some ⟨g, 8, none⟩) A' 64 64 M' C' (by rfl) (by rfl) g 8 (stCs h' sm' (nm : Int) ++ tl) t HB'.out (r.flatMap encB) HLn.out (fun hp => ⟨rfl, HPos.out hp⟩) HFit.out (one_b r) ?_; intro w3 hB3 hn3)
          go_end0
          refine ⟨rfl, h', splice sm' 0 r, HR'.out, ?_, HN'.out.trans hn3⟩
          have := hB3.out
          rw [show (8 : Nat) = 8 + 0 from rfl, HSp.out] at this
          rw [show ((l.length : Int) + (m : Int)) = (nm : Int) by have := HNm.out; have := HN.out; omega]
          exact this
end Go.Proofs.YtjcklmhkdpbbdaaDoor
