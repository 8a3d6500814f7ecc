/- A node appended to a list of nodes of the call's own. -/
import Derived.Test.YtnkpaockginooaaValB
namespace Go.Proofs.Ytnkpaockginooaa
set_option linter.unusedVariables false
set_option linter.unusedSimpArgs false
open Go.RowKit Go.Sort

theorem PsP.turn {w w' : World} {X : Nat → Prop} {ps : List Pr} {v : Value} (h : PsP X ps w v) (hs : Same X w w') : PsP X ps w' v := by
  obtain ⟨A, c, f, h1, h2, h3, h4, h5⟩ := h
  exact ⟨A, c, f, h1, h2, h3, h4.turn hs, fun i p hp => (h5 i p hp).turn hs⟩
theorem TsP.turn {w w' : World} {X : Nat → Prop} {ts : List Tr} {v : Value} (h : TsP X ts w v) (hs : Same X w w') : TsP X ts w' v := by
  obtain ⟨A, c, f, k, h1, h2, h3, h4, h5⟩ := h
  exact ⟨A, c, f, k, h1, h2, h3, h4.turn hs, fun i t ht => TrX.turn hs (h5 i t ht)⟩
theorem PsP.less {w : World} {X Y : Nat → Prop} {ps : List Pr} {v : Value} (h : PsP X ps w v) (hY : ∀ b, Y b → X b) : PsP Y ps w v := by
  obtain ⟨A, c, f, h1, h2, h3, h4, h5⟩ := h
  exact ⟨A, c, f, h1, h2, h3, h4.swap fun b hb _ => hY b hb, h5⟩
theorem TsP.less {w : World} {X Y : Nat → Prop} {ts : List Tr} {v : Value} (h : TsP X ts w v) (hY : ∀ b, Y b → X b) : TsP Y ts w v := by
  obtain ⟨A, c, f, k, h1, h2, h3, h4, h5⟩ := h
  exact ⟨A, c, f, k, h1, h2, h3, h4.swap fun b hb _ => hY b hb, fun i t ht => TrX.less hY (h5 i t ht)⟩
theorem TrX.parts : ∀ {w : World} {X : Nat → Prop} {n : Nat} {t : Tr} {s : ByteArray} {v1 v2 : Value}, TrX w X n t [.string s, v1, v2] → s = t.nm ∧ t.nm.size ≤ maxLen ∧ PsP X t.ps w v1 ∧ TsP X t.ks w v2
  | _, _, 0, _, _, _, _, h => h.elim
  | _, _, n + 1, t, _, _, _, ⟨h0, A1, c1, A2, c2, f, g, h1, h2, h3, h4, h5, h6, h7, h8, h9⟩ => by
    simp only [List.cons.injEq, Value.string.injEq, and_true] at h1
    obtain ⟨rfl, rfl, rfl⟩ := h1
    exact ⟨rfl, h0, ⟨A1, c1, f, rfl, h2, h3, h6, h8⟩, ⟨A2, c2, g, n, rfl, h4, h5, h7, h9⟩⟩
theorem OwnTs.nil (w : World) (X : Nat → Prop) (base : Nat) : OwnTs w X base [] (.slice none 0 0) := ⟨[], ⟨rfl, .inl ⟨rfl, rfl⟩⟩, [], rfl, trivial⟩
theorem TrX.one : ∀ {w : World} {X : Nat → Prop} {n : Nat} {t : Tr} {cs : List Value}, TrX w X n t cs → ∀ u ∈ cs, u.oneCell' = true
  | _, _, 0, _, _, h => h.elim
  | _, _, n + 1, _, _, ⟨_, _, _, _, _, _, _, e, _⟩ => by
    rw [e]
    intro u hu
    simp at hu
    rcases hu with rfl | rfl | rfl <;> rfl
theorem OwnTs.app {w : World} {X : Nat → Prop} {base : Nat} {ts : List Tr} {t : Tr} {v x : Value} (ty : TypeId) (h : OwnTs w X base ts v) (hbase : base ≤ w.heap.size) (hX : ∀ b, X b → b < base) (hx : TsP (fun b => X b ∨ v.ownBlock = some b) [t] w x) (hn : ts.length ≤ 1000000) :
    ∃ v' w' A c, (Builtin.append_ #[23, 23] ty #[v, x]).run Try.prog w = .ok v' w' ∧ OwnTs w' X base (ts ++ [t]) v' ∧ Below base w w' ∧ w.grownBy w' v.ownBlock ∧ v' = .slice A (ts ++ [t]).length c := by
  obtain ⟨xs, hown, css, rfl, hall⟩ := h
  obtain ⟨A, c, f, k, rfl, hc1, hc2, hrows, hel⟩ := hx
  obtain ⟨b, off, rfl, hxb, ⟨bcs, bfz, hbt⟩, hcell⟩ := hrows (by simp)
  have ht := hel 0 t rfl
  have hlen := ht.len
  obtain ⟨htt, ⟨i, z, hi, hz, hsize, hby, hzs⟩, hsz⟩ := tree_elem
  have hM : ts.length + 1 ≤ maxLen := by unfold maxLen; omega
  have hM2 : (ts.length + 1) * 64 ≤ 140737488355328 := by omega
  obtain ⟨v', w', hrun, hown', hgr, _, hloc⟩ := run_append_own_at (P := Try.prog) w base 23 ty 25 i z 3 64 htt hi hz hsize hby hzs hsz v ts.length css.flatten hown ⟨b, off, none⟩ 1 c (f 0) (by rw [hlen]) (fun j u hu => by
    have hj : j < 3 := by
      have := (List.getElem?_eq_some_iff.1 hu).1
      omega
    have h1 := hcell 0 (by simp) j hj
    rw [Nat.zero_mul, Nat.zero_add, hu] at h1
    rw [← h1]
    have e : ((⟨b, off, none⟩ : Addr).add j) = ⟨b, off + j, none⟩ := by cases j <;> simp [Addr.add]
    rw [e]) ht.one hM hM2 hbase
  have hsame : Same (fun b => X b ∨ v.ownBlock = some b) w w' := Same.grown hown (by decide) (fun g hg => .inr hg) hgr
  have hsw : ∀ g, (X g ∨ v'.ownBlock = some g) → g < w'.heap.size → (X g ∨ v.ownBlock = some g) ∨ w.heap.size ≤ g := by
    intro g hg _
    rcases hg with hg | hg
    · exact .inl (.inl hg)
    · rcases hloc with e | e
      · exact .inl (.inr (by rw [← e]; exact hg))
      · rw [e] at hg
        simp only [Option.some.injEq] at hg
        exact .inr (by omega)
  have turn : ∀ {k : Nat} {t : Tr} {cs : List Value}, TrX w (fun b => X b ∨ v.ownBlock = some b) k t cs → TrX w' (fun b => X b ∨ v'.ownBlock = some b) k t cs := by
    intro k t cs h
    have h1 : TrX w (fun b => (X b ∨ v.ownBlock = some b) ∨ w.heap.size ≤ b) k t cs := TrX.swap (fun b hb hlt => by
      rcases hb with hb | hb
      · exact hb
      · exact absurd hlt (by omega)) h
    have h2 := TrX.turn (X := fun b => (X b ∨ v.ownBlock = some b) ∨ w.heap.size ≤ b) ⟨hsame.size, fun b cs T fz hb hx => hsame.block b cs T fz hb (hx.imp_left fun hn h => hn (.inl h))⟩ h1
    exact TrX.swap hsw h2
  have hown2 : w'.ownsRow base 25 3 v' (ts ++ [t]).length (css.flatten ++ f 0) := by
    rw [List.length_append]
    exact hown'
  obtain ⟨A', c', hv', _, _⟩ := own_slice hown2
  refine ⟨v', w', A', c', hrun, ⟨css.flatten ++ f 0, hown2, css ++ [f 0], by simp, ?_⟩, (Below.refl base w).grown hgr hbase (fun k hk => (hown.lt k hk).1), hgr, hv'⟩
  exact AllIn.snoc ⟨k, turn ht⟩ (hall.mono fun _ _ ⟨k, h⟩ => ⟨k, turn h⟩)
theorem OwnTs.lt {w : World} {X : Nat → Prop} {base : Nat} {ts : List Tr} {v : Value} (h : OwnTs w X base ts v) {g : Nat} (hg : v.ownBlock = some g) : base ≤ g ∧ g < w.heap.size := by
  obtain ⟨xs, h1, _⟩ := h
  exact own_lt h1 hg
end Go.Proofs.Ytnkpaockginooaa
