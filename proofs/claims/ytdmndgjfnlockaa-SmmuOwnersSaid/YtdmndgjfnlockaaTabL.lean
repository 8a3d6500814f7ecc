/- Chapter 23, the table of streams: entries are laid into it. -/
import Derived.Test.YtdmndgjfnlockaaTabP
import Derived.Test.YtdmndgjfnlockaaNear
namespace Go.Proofs.Ytdmndgjfnlockaa
set_option linter.unusedVariables false
open Go.RowKit Go.Sort

def encE (own : Ste) (s : Int) : List Value := encS own ++ [.int .u32 s]
theorem flatS_set3 : ∀ (l : List Ste) (j : Nat) (h : j < l.length) (o : Ste),
    (((l.flatMap encS).set (j * 3) (.bool o.ok)).set (j * 3 + 1) (.int .i64 o.id)).set (j * 3 + 2) (.int .u64 o.root) = (l.set j o).flatMap encS
  | [], _, h, _ => absurd h (by simp)
  | v :: l, 0, _, o => by simp [encS]
  | v :: l, j + 1, h, o => by
    have ih := flatS_set3 l j (by simpa using h) o
    rw [show (j + 1) * 3 = j * 3 + 1 + 1 + 1 by omega, show j * 3 + 1 + 1 + 1 + 1 = (j * 3 + 1) + 1 + 1 + 1 by omega, show j * 3 + 1 + 1 + 1 + 2 = (j * 3 + 2) + 1 + 1 + 1 by omega]
    simp only [List.flatMap_cons, List.set_cons_succ]
    rw [← ih]
    rfl
theorem row_set3 {w : World} {b0 gw cap n : Nat} {l : List Ste} (hl : l.length = n) (h : w.ownsRow b0 52 3 (.slice (some ⟨gw, 0, none⟩) n cap) n (l.flatMap encS)) (j : Nat) (hj : j < n) (o : Ste) :
    (((w.setCell ⟨gw, j * 3, none⟩ (.bool o.ok)).setCell ⟨gw, j * 3 + 1, none⟩ (.int .i64 o.id)).setCell ⟨gw, j * 3 + 2, none⟩ (.int .u64 o.root)).ownsRow b0 52 3 (.slice (some ⟨gw, 0, none⟩) n cap) n ((l.set j o).flatMap encS) := by
  have h3 := (((h.stored (j * 3) (.bool o.ok)).1.stored (j * 3 + 1) (.int .i64 o.id)).1.stored (j * 3 + 2) (.int .u64 o.root)).1
  rwa [flatS_set3 l j (by omega) o] at h3

/-- What laid hands back, and what becomes of the table. -/
def LaidR (R : Option (List Ste)) (b0 gw n cap : Nat) (e : Ending) (w' : World) : Prop :=
  match R with
  | none => e = .returned (.bool false)
  | some l' => e = .returned (.bool true) ∧ w'.ownsRow b0 52 3 (.slice (some ⟨gw, 0, none⟩) n cap) n (l'.flatMap encS)
set_option maxRecDepth 100000 in
set_option maxHeartbeats 4000000 in
theorem laid_any (b0 b1 gw cap n : Nat) (l : List Ste) (own : Ste) (ss : List Int) (A2 : Option Addr) (m c2 : Nat) (w : World) (hl : l.length = n) (hlm : ss.length = m) (hn : n ≤ 1000) (hm : m ≤ 1000) (hss : ∀ s ∈ ss, 0 ≤ s ∧ s < 4294967296)
    (hown : w.ownsRow b0 52 3 (.slice (some ⟨gw, 0, none⟩) n cap) n (l.flatMap encS)) (hE : w.ownsRow b1 75 4 (.slice A2 m c2) m (ss.flatMap (encE own))) :
    Calls Try.prog 28 #[.slice (some ⟨gw, 0, none⟩) n cap, .slice A2 m c2] w fun e w' =>
      LaidR (laidN l own ss) b0 gw n cap e w' ∧ Near (fun i => i = gw) w w' := by
  have hcn : n ≤ cap := by
    rcases hown.2 with ⟨h, _⟩ | ⟨g, c, cur, h, _, _, hnc, _⟩
    · cases h
    · injection h with _ _ h; omega
  have hEne : ∀ k, (Value.slice A2 m c2).ownBlock = some k → k ≠ gw := by
    intro k hk
    rcases hE.2 with ⟨h, _⟩ | ⟨g, c, cur, h, _, hh, _⟩
    · rw [h] at hk; simp [Value.ownBlock] at hk
    · rcases hown.2 with ⟨h', _⟩ | ⟨g', c', cur', h', _, hh', _⟩
      · cases h'
      · injection h' with h1 _ _
        injection h1 with h1
        injection h1 with h1
        rw [h] at hk
        simp [Value.ownBlock] at hk
        subst hk h1
        intro e
        subst e
        rw [hh] at hh'
        injection hh' with hh'
        injection hh' with _ ht
        exact absurd ht (by decide)
  have HL := Lib.hid hl
  have HM := Lib.hid hlm
  have HS := Lib.hid hss
  have HE := Lib.hid (fun W (hW : Near (fun i => i = gw) w W) => Rd.of_own (own_same hE fun k hk => hW.block k (own_lt hE hk).2 (hEne k hk)))
  have HEs := Lib.hid (fun W (hW : Near (fun i => i = gw) w W) => hW.size)
  obtain ⟨R, hR⟩ : ∃ R, laidN l own ss = R := ⟨_, rfl⟩
  rw [hR]
  have HR := Lib.hid hR
  clear hl hlm hss hE hEne hR
  go_enter Try.func28, Try.ntmps28
  go_wp2
  go_loopw [9] (fun i wr => ∃ k : Nat, k ≤ m ∧ i = .int .i64 k ∧ ∃ l', laidK l own ss k = some l' ∧ wr.ownsRow b0 52 3 (.slice (some ⟨gw, 0, none⟩) n cap) n (l'.flatMap encS) ∧ Near (fun i => i = gw) w wr) (fun i _ => m - (intOf i).toNat)
  case atStart => exact ⟨0, by omega, rfl, l, rfl, hown, Near.refl _ _⟩
  case round =>
    obtain ⟨k, hk, rfl, l', hk', ho, hn2⟩ := hrel
    clear hown
    have HK := Lib.hid hk'
    have HL2 := Lib.hid ((laidK_len hk').trans HL.out)
    clear hk'
    by_cases hlt : k < m
    · have hlt' : k < ss.length := by rw [HM.out]; exact hlt
      obtain ⟨b, o, rfl, hbb, hcc⟩ := (HE.out wr hn2).row (fun _ => rfl) hlt' HM.out
      have d0 := hcc 0 (by omega)
      have d1 := hcc 1 (by omega)
      have d2 := hcc 2 (by omega)
      have d3 := hcc 3 (by omega)
      simp only [encE, encS, List.cons_append, List.nil_append, Nat.add_zero, List.getElem?_cons_zero, List.getElem?_cons_succ] at d0 d1 d2 d3
      obtain ⟨hs0, hs1⟩ := HS.out _ (List.getElem_mem hlt')
      have hgd : ss.getD k 0 = ss[k] := by rw [List.getD_eq_getElem?_getD, List.getElem?_eq_getElem hlt']; rfl
      have HSt := Lib.hid (show laidK l own ss (k + 1) = stepS l' own (ss[k]) by rw [laidK, HK.out, hgd]; rfl)
      clear hcc hgd
      generalize ss[k] = s at *
      obtain ⟨j, rfl⟩ := Int.eq_ofNat_of_zero_le hs0
      obtain ⟨ok, id, root⟩ := own
      simp only at d0 d1 d2
      have hw1 : IntKind.u64.wrap (j : Int) = j := by rw [IntKind.wrap_u64]; exact Int.emod_eq_of_lt (by omega) (by omega)
      have hw2 : IntKind.u64.wrap (n : Int) = n := by rw [IntKind.wrap_u64]; exact Int.emod_eq_of_lt (by omega) (by omega)
      by_cases hjn : n ≤ j
      · have HF := Lib.hid (show R = none by
          rw [← HR.out]
          refine laidN_none (k := k + 1) (by rw [HM.out]; omega) ?_
          rw [HSt.out, stepS, if_pos (.inl (by rw [HL2.out]; omega))])
        clear hs0 hs1
        go_wp2
        all_goals (go_ret; rw [HF.out]; exact ⟨rfl, hn2.alloc _⟩)
      · have hjn' : j < n := by omega
        have c0 := ho.cellAt (j * 3) (by omega)
        have e0 := flatMap_get (enc := encS) (s := 3) (fun _ => rfl) l' j 0 (by omega) (by rw [HL2.out]; exact hjn')
        rw [Nat.add_zero] at e0
        rw [e0] at c0
        have hgd : l'.getD j zS = l'[j]'(by rw [HL2.out]; exact hjn') := by rw [List.getD_eq_getElem?_getD, List.getElem?_eq_getElem (by rw [HL2.out]; exact hjn')]; rfl
        simp only [encS, List.getElem?_cons_zero] at c0
        have hgl := (own_lt ho (k := gw) (by simp [Value.ownBlock])).2
        cases hok : (l'[j]'(by rw [HL2.out]; exact hjn')).ok
        · have c1 := ho.cellAt (j * 3 + 1) (by omega)
          have c2' := ho.cellAt (j * 3 + 2) (by omega)
          have e1 := flatMap_get (enc := encS) (s := 3) (fun _ => rfl) l' j 1 (by omega) (by rw [HL2.out]; exact hjn')
          have e2 := flatMap_get (enc := encS) (s := 3) (fun _ => rfl) l' j 2 (by omega) (by rw [HL2.out]; exact hjn')
          rw [e1] at c1
          rw [e2] at c2'
          simp only [encS, List.getElem?_cons_zero, List.getElem?_cons_succ] at c1 c2'
          have hfz := ho.frozenAt
          rw [hok] at c0
          have HN := Lib.hid (show laidK l ⟨ok, id, root⟩ ss (k + 1) = some (l'.set j ⟨ok, id, root⟩) by
            rw [HSt.out, stepS, if_neg]
            · rfl
            · rintro (h | h)
              · rw [HL2.out] at h; omega
              · rw [Int.toNat_natCast, hgd, hok] at h; cases h)
          have HO := Lib.hid ((row_set3 HL2.out ho j hjn' ⟨ok, id, root⟩).alloc (.cells #[.bool ok, .int .i64 id, .int .u64 root, .int .u32 j] 75))
          clear e0 e1 e2 hgd hok ho hs0 hs1
          generalize (l'[j]'(by rw [HL2.out]; exact hjn')) = old at *
          go_wp2
          go_roundw
          case rel => exact ⟨k + 1, by omega, by go_num, _, HN.out, HO.out, (((hn2.setCell (p := ⟨gw, j * 3, none⟩) rfl _).setCell (p := ⟨gw, j * 3 + 1, none⟩) rfl _).setCell (p := ⟨gw, j * 3 + 2, none⟩) rfl _).alloc _⟩
          case measure => simp [intOf]; omega
        · have HF := Lib.hid (show R = none by
            rw [← HR.out]
            refine laidN_none (k := k + 1) (by rw [HM.out]; omega) ?_
            rw [HSt.out, stepS, if_pos (.inr (by rw [Int.toNat_natCast, hgd, hok]))])
          rw [hok] at c0
          clear e0 hgd hok hs0 hs1
          go_wp2
          all_goals (go_ret; rw [HF.out]; exact ⟨rfl, hn2.alloc _⟩)
    · obtain rfl : k = m := by omega
      have HF := Lib.hid (show R = some l' by rw [← HR.out, laidN, HM.out, HK.out])
      go_wp2
      go_ret
      rw [HF.out]
      exact ⟨⟨rfl, ho⟩, hn2⟩
end Go.Proofs.Ytdmndgjfnlockaa
