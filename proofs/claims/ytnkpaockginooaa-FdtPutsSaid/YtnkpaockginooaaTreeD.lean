/- Device trees: which are alike; the program's, whole. -/
import Derived.Test.YtnkpaockginooaaTreeC
namespace Go.Proofs.Ytnkpaockginooaa
set_option linter.unusedVariables false
set_option linter.unusedSimpArgs false
open Go.RowKit Go.Sort

theorem tr_eq {a b : Tr} (h1 : a.nm = b.nm) (h2 : a.ps = b.ps) (h3 : a.ks = b.ks) : a = b := by rw [a.eta, b.eta, h1, h2, h3]
theorem pr_form {w : World} {B : Nat} {p : Pr} {cs : List Value} (h : PrOk w B p cs) : ∃ (x1 : ByteArray) (xA : Option Addr) (xl xc : Nat), cs = [.string x1, .slice xA xl xc] := by
  obtain ⟨_, _, A, c, e, _⟩ := h
  exact ⟨_, _, _, _, e⟩
theorem tr_form {w : World} {B k : Nat} {t : Tr} {cs : List Value} (h : TrOk w B k t cs) : ∃ (x1 : ByteArray) (xA : Option Addr) (xl xc : Nat) (xB : Option Addr) (xm xd : Nat), cs = [.string x1, .slice xA xl xc, .slice xB xm xd] := by
  cases k with
  | zero => exact h.elim
  | succ k =>
    obtain ⟨_, _, _, _, _, _, _, e, _⟩ := h
    exact ⟨_, _, _, _, _, _, _, e⟩
set_option maxRecDepth 100000 in
set_option maxHeartbeats 2000000 in
theorem same_any : ∀ (k k2 : Nat) (t1 t2 : Tr) (cs1 cs2 : List Value) (w : World), TrOk w w.heap.size k t1 cs1 → TrOk w w.heap.size k2 t2 cs2 →
    Calls Try.prog 19 #[.agg cs1.toArray, .agg cs2.toArray] w fun e w' => e = .returned (.bool (eqv t1 t2)) ∧ Below w.heap.size w w'
  | 0, _, _, _, _, _, _, h, _ => h.elim
  | k + 1, 0, _, _, _, _, _, _, h => h.elim
  | k + 1, k2 + 1, t1, t2, cs1, cs2, w, h, h' => by
    have ih := same_any k k2
    obtain ⟨_, A1, c1, A2, c2, f, g, rfl, _, h3, _, h5, h6, h7, h8, h9⟩ := h
    obtain ⟨_, A1', c1', A2', c2', f', g', rfl, _, h3', _, h5', h6', h7', h8', h9'⟩ := h'
    have HPs := Lib.hid (fun W (hW : Below w.heap.size w W) => eqProps_any t1.ps t2.ps A1 A1' c1 c1' t1.ps.length t2.ps.length f f' 0 W rfl rfl (by omega) (by omega) ((h6.below hW).more hW.size) ((h6'.below hW).more hW.size)
      (fun i ⟨p, hp⟩ => pr_form (h8 i p hp)) (fun i ⟨p, hp⟩ => pr_form (h8' i p hp))
      (fun i p1 p2 hp1 hp2 W' hW' => by
        have hx := hW.trans (hW'.mono hW.size)
        have := sameProp_any p1 p2 (f i) (f' i) W' (((h8 i p1 hp1).below hx).more hx.size) (((h8' i p2 hp2).below hx).more hx.size)
        rw [eqv_decide] at this
        exact this))
    have HKs := Lib.hid (fun W (hW : Below w.heap.size w W) => eqTrees_any t1.ks t2.ks A2 A2' c2 c2' t1.ks.length t2.ks.length g g' 0 W rfl rfl (by omega) (by omega) ((h7.below hW).more hW.size) ((h7'.below hW).more hW.size)
      (fun i ⟨p, hp⟩ => tr_form (h9 i p hp)) (fun i ⟨p, hp⟩ => tr_form (h9' i p hp))
      (fun i p1 p2 hp1 hp2 W' hW' => by
        have hx := hW.trans (hW'.mono hW.size)
        exact ih p1 p2 (g i) (g' i) W' (((h9 i p1 hp1).below hx).more hx.size) (((h9' i p2 hp2).below hx).more hx.size)))
    obtain ⟨bb, hbb⟩ : ∃ bb, eqv t1 t2 = bb := ⟨_, rfl⟩
    rw [hbb]
    have HBB := Lib.hid hbb
    have HB := Lib.hid (bal (bal (Below.refl w.heap.size w) (.cells #[.string t1.nm, .slice A1 t1.ps.length c1, .slice A2 t1.ks.length c2] 25)) (.cells #[.string t2.nm, .slice A1' t2.ps.length c1', .slice A2' t2.ks.length c2'] 25))
    clear ih h3 h5 h6 h7 h8 h9 h3' h5' h6' h7' h8' h9' hbb
    generalize t1.ps.length = n1 at *
    generalize t1.ks.length = m1 at *
    generalize t2.ps.length = n2 at *
    generalize t2.ks.length = m2 at *
    obtain ⟨s1, hs1⟩ : ∃ s, t1.nm = s := ⟨_, rfl⟩
    obtain ⟨s2, hs2⟩ : ∃ s, t2.nm = s := ⟨_, rfl⟩
    rw [hs1, hs2] at HB ⊢
    by_cases hn : s1 = s2
    · by_cases hp : t1.ps = t2.ps
      · rw [eqv_t hp] at HPs
        by_cases hk : t1.ks = t2.ks
        · rw [eqv_t hk] at HKs
          have hf : bb = true := by rw [← HBB.out]; exact eqv_t (tr_eq (by rw [hs1, hs2, hn]) hp hk)
          subst hf
          clear hs1 hs2 hp hk
          subst hn
          go_enter Try.func19, Try.ntmps19
          go_wp2_with (first
            | (go_at_call 43; refine (HPs.out _ HB.out).mono ?_; rintro e w5 ⟨rfl, hb5⟩; have hb6 := HB.out.trans (hb5.mono HB.out.size); have hT1 := ((Blk.new w 25 #[.string s1, .slice A1 n1 c1, .slice A2 m1 c2]).alloc (.cells #[.string s1, .slice A1' n2 c1', .slice A2' m2 c2'] 25)).kept hb5; have hT2 : Blk w5 (w.heap.size + 1) 25 #[.string s1, .slice A1' n2 c1', .slice A2' m2 c2'] := Blk.kept (Blk.fresh (w.alloc (.cells #[.string s1, .slice A1 n1 c1, .slice A2 m1 c2] 25)) 25 #[.string s1, .slice A1' n2 c1', .slice A2' m2 c2']) hb5; have cT1 := hT1.cell; have cT2 := hT2.cell)
            | (go_at_call 44; refine (HKs.out _ hb6).mono ?_; rintro e w7 ⟨rfl, hb7⟩; have hb8 := hb6.trans (hb7.mono hb6.size)))
          go_ret
          exact ⟨rfl, hb8⟩
        · rw [eqv_f hk] at HKs
          have hf : bb = false := by rw [← HBB.out]; exact eqv_f (fun h => hk (by rw [h]))
          subst hf
          clear hs1 hs2 hp hk
          subst hn
          go_enter Try.func19, Try.ntmps19
          go_wp2_with (first
            | (go_at_call 43; refine (HPs.out _ HB.out).mono ?_; rintro e w5 ⟨rfl, hb5⟩; have hb6 := HB.out.trans (hb5.mono HB.out.size); have hT1 := ((Blk.new w 25 #[.string s1, .slice A1 n1 c1, .slice A2 m1 c2]).alloc (.cells #[.string s1, .slice A1' n2 c1', .slice A2' m2 c2'] 25)).kept hb5; have hT2 : Blk w5 (w.heap.size + 1) 25 #[.string s1, .slice A1' n2 c1', .slice A2' m2 c2'] := Blk.kept (Blk.fresh (w.alloc (.cells #[.string s1, .slice A1 n1 c1, .slice A2 m1 c2] 25)) 25 #[.string s1, .slice A1' n2 c1', .slice A2' m2 c2']) hb5; have cT1 := hT1.cell; have cT2 := hT2.cell)
            | (go_at_call 44; refine (HKs.out _ hb6).mono ?_; rintro e w7 ⟨rfl, hb7⟩; have hb8 := hb6.trans (hb7.mono hb6.size)))
          go_ret
          exact ⟨rfl, hb8⟩
      · rw [eqv_f hp] at HPs
        have hf : bb = false := by rw [← HBB.out]; exact eqv_f (fun h => hp (by rw [h]))
        subst hf
        clear hs1 hs2 hp HKs
        subst hn
        go_enter Try.func19, Try.ntmps19
        go_wp2_with (go_at_call 43; refine (HPs.out _ HB.out).mono ?_; rintro e w5 ⟨rfl, hb5⟩; have hb6 := HB.out.trans (hb5.mono HB.out.size))
        go_ret
        exact ⟨rfl, hb6⟩
    · have hf : bb = false := by rw [← HBB.out]; exact eqv_f (fun h => hn (by rw [← hs1, ← hs2, h]))
      subst hf
      have hq := baL hn
      clear hs1 hs2 hn HPs HKs
      go_enter Try.func19, Try.ntmps19
      go_wp2_with fail
      go_ret
      exact ⟨rfl, HB.out⟩
end Go.Proofs.Ytnkpaockginooaa
