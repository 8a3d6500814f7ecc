/- The tree of a guest is small. -/
import Derived.Test.YtnkpaockginooaaGuA
import Derived.Test.YtnkpaockginooaaHostB
namespace Go.Proofs.Ytnkpaockginooaa
set_option linter.unusedVariables false
set_option linter.unusedSimpArgs false
open Go.RowKit Go.Sort
def prSm (p : Pr) : Prop := p.1.size ≤ 140737488355328 ∧ p.2.length ≤ 140737488355328
theorem lens_leaf {nm : ByteArray} {ps : List Pr} (n : Nat) (h1 : nm.size ≤ 140737488355328) (h2 : ps.length ≤ 140737488355328) (h3 : ∀ p ∈ ps, prSm p) : LensF (n + 1) (.mk nm ps []) :=
  ⟨h1, h2, by simp [Tr.ks], h3, fun k hk => by simp [Tr.ks] at hk⟩
theorem sm_num {nm : ByteArray} {l : List Int} {s : Nat} (h : nm.size ≤ 1000) (hl : l.length ≤ 1000) (hs : s ≤ 8) : prSm (nm, l.flatMap (bytesN s false)) := by
  refine ⟨Nat.le_trans h (by decide), ?_⟩
  show (l.flatMap (bytesN s false)).length ≤ _
  rw [bytesNs_len]
  have : s * l.length ≤ 8 * 1000 := Nat.mul_le_mul hs hl
  omega
theorem sm_str {nm s : ByteArray} (h : nm.size ≤ 1000) (hl : s.size ≤ 1000) : prSm (nm, strB s ++ [0]) := by
  refine ⟨Nat.le_trans h (by decide), ?_⟩
  show (strB s ++ [0]).length ≤ _
  simp [strB_len]
  omega
theorem nm_at {l : List Int} {n : Nat} (h : l.length ≤ 100) : (strOfNums (atN l n)).size ≤ 140737488355328 := by
  rw [strOfNums_size]
  have := atN_len l n
  omega
theorem endsG_1 (gs : List (Gs × Gp)) (g : Int) (x : Ch) : (endsG gs g x 1).length ≤ 1 := by
  show (end0G gs g x).length ≤ 1
  unfold end0G
  split <;> simp
theorem lens_cpus (c : Int) : LensF 2 (cpusG c) := by
  refine ⟨by show (4 : Nat) ≤ 140737488355328; decide, by show (2 : Nat) ≤ 140737488355328; decide, ?_, ?_, ?_⟩
  · show (((List.range 32).filter (bitG c)).map cpuG).length ≤ _
    rw [List.length_map]
    have := List.length_filter_le (bitG c) (List.range 32)
    simp at this
    omega
  · intro p hp
    simp only [cpusG, Tr.ps, cpuPs, List.mem_cons, List.not_mem_nil, or_false] at hp
    rcases hp with rfl | rfl
    · exact sm_num (by decide) (by decide) (by decide)
    · exact sm_num (by decide) (by decide) (by decide)
  · intro k hk
    simp only [cpusG, Tr.ks, List.mem_map] at hk
    obtain ⟨i, _, rfl⟩ := hk
    refine lens_leaf 0 (nm_at (by decide)) (by simp) ?_
    intro p hp
    simp only [List.mem_cons, List.not_mem_nil, or_false] at hp
    rcases hp with rfl | rfl
    · exact sm_str (by decide) (by decide)
    · exact sm_num (by decide) (by simp) (by decide)
theorem lens_win (y : Wn) : LensF 2 (winG y) := by
  refine lens_leaf 1 (nm_at (by decide)) (by simp) ?_
  intro p hp
  simp only [List.mem_cons, List.not_mem_nil, or_false] at hp
  rcases hp with rfl | rfl | rfl
  · exact sm_str (by decide) (by decide)
  · exact sm_num (by decide) (by simp) (by decide)
  · exact sm_num (by decide) (by simp) (by decide)
theorem lens_dev (y : Dv) : LensF 2 (devG y) := by
  refine lens_leaf 1 (nm_at (by decide)) (by simp) ?_
  intro p hp
  simp only [List.mem_cons, List.not_mem_nil, or_false] at hp
  subst hp
  exact sm_num (by decide) (by simp) (by decide)
theorem lens_chan (sz : Int) (s : ByteArray) (hs : s.size ≤ 100) (e : En) : LensF 2 (chanG sz s e) := by
  refine lens_leaf 1 (nm_at (by decide)) (by simp) ?_
  intro p hp
  simp only [List.mem_cons, List.not_mem_nil, or_false] at hp
  rcases hp with rfl | rfl | rfl | rfl
  · exact sm_str (by decide) (by decide)
  · exact sm_num (by decide) (by simp) (by decide)
  · exact sm_str (by decide) (by omega)
  · exact sm_num (by decide) (by simp) (by decide)
theorem lens_guest {x : Cf} {g : Gs × Gp} {k : Nat} (hp : ∀ o, (peerG x.gs o).size ≤ 100) (hc : x.cs.length ≤ 40) (hw : g.1.ws.length ≤ 20) (hd : g.1.ds.length ≤ 20) (hq : g.1.qs.length ≤ 70) (hs : g.1.ss.length ≤ 40) (hn : g.1.nm.size ≤ 100) : LensF 3 (guestG x k g.1) := by
  refine ⟨Nat.zero_le _, by simp [guestG, Tr.ps, rootPs], ?_, ?_, ?_⟩
  · show ([cpusG g.1.cpus] ++ g.1.ws.map winG ++ g.1.ds.map devG ++ x.cs.flatMap (chansG x.gs k)).length ≤ _
    have := chans_len x.gs k x.cs
    simp only [List.length_append, List.length_map, List.length_cons, List.length_nil]
    omega
  · intro p hp
    simp only [guestG, Tr.ps, rootPs, List.mem_cons, List.not_mem_nil, or_false] at hp
    rcases hp with rfl | rfl | rfl | rfl | rfl | rfl
    · exact sm_num (by decide) (by decide) (by decide)
    · exact sm_num (by decide) (by decide) (by decide)
    · exact sm_str (by decide) (by decide)
    · exact sm_str (by decide) (by omega)
    · exact sm_num (by decide) (by rw [List.length_map]; omega) (by decide)
    · exact sm_num (by decide) (by omega) (by decide)
  · intro t ht
    simp only [guestG, Tr.ks, List.mem_append, List.mem_map, List.mem_flatMap, List.mem_cons, List.not_mem_nil, or_false] at ht
    rcases ht with ((rfl | ⟨y, _, rfl⟩) | ⟨y, _, rfl⟩) | ⟨y, _, hy⟩
    · exact lens_cpus _
    · exact lens_win y
    · exact lens_dev y
    · unfold chansG end0G end1G at hy
      rcases List.mem_append.1 hy with hy | hy
      · split at hy
        · simp only [List.mem_cons, List.not_mem_nil, or_false] at hy
          subst hy
          exact lens_chan _ _ (hp _) _
        · cases hy
      · split at hy
        · simp only [List.mem_cons, List.not_mem_nil, or_false] at hy
          subst hy
          exact lens_chan _ _ (hp _) _
        · cases hy
theorem guestP_no {x : Cf} {gi en : Int} {w w' : World} (hga : guestA x gi = (zT, en)) (hb : Below w.heap.size w w') : GuestP x gi w (.returned (.tuple #[.agg #[.string ⟨#[]⟩, .slice none 0 0, .slice none 0 0], .int .i64 en])) w' := by
  unfold GuestP
  rw [hga]
  exact ⟨_, rfl, TrP.mk (Nat.zero_le _) (PsP.nil 0 none (by decide)) (TsP.nil 0 none (by decide)), hb⟩
theorem guestP_yes {x : Cf} {gi : Int} {w w' : World} {T : Tr} {X : Nat → Prop} {k : Nat} {cs : List Value} (hga : guestA x gi = (T, 0)) (h : TrX w' X k T cs) (hb : Below w.heap.size w w') : GuestP x gi w (.returned (.tuple #[.agg cs.toArray, .int .i64 0])) w' := by
  unfold GuestP
  rw [hga]
  exact ⟨_, rfl, ⟨cs, k, rfl, h.less fun _ h => h.elim⟩, hb⟩
end Go.Proofs.Ytnkpaockginooaa
