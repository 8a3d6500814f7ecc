/- Chapter 14: cfg.Put whole; walked. -/
import Derived.Test.YtmhbpfclfffgkaaCfWc
namespace Go.Proofs.Ytmhbpfclfffgkaa
set_option linter.unusedVariables false
set_option linter.unusedSimpArgs false
open Go.RowKit Go.Sort

theorem near_of_wrt {gw : Nat} {w w' : World} (h : Wrt gw gw w w') (hk : ∀ i, gw < i → i < w.heap.size → ∃ cs T f, w.heap[i]? = some (.cells cs T f) ∧ T ≠ 5) : Near (fun i => i = gw) w w' :=
  ⟨h.os, h.tape, h.output, h.size, fun i hi hn => by
    rcases Nat.lt_or_ge i gw with h1 | h1
    · exact h.low i h1
    · obtain ⟨cs, T, f, h2, h3⟩ := hk i (by omega) hi
      exact h.keep i cs T f h2 h3 hn⟩
/-- What Put answers. -/
def PutR (x : CfD) (w : World) (e : Ending) (w' : World) : Prop := Below w.heap.size w w' ∧
  ((putE x ≠ 0 ∧ e = .returned (.tuple #[.slice none 0 0, .int .i64 (putE x)])) ∨
   (putE x = 0 ∧ ∃ (A : Option Addr) (c : Nat), e = .returned (.tuple #[.slice A (putB x).length c, .int .i64 0]) ∧ w'.ownsRow w.heap.size 5 1 (.slice A (putB x).length c) (putB x).length ((putB x).flatMap encB)))
set_option maxRecDepth 100000 in
set_option maxHeartbeats 4000000 in
theorem put_any (x : Cf) (A : Option Addr) (c : Nat) (A2 : Option Addr) (c2 : Nat) (w : World) (hC : CfR w w.heap.size x A c A2 c2) (hf : PutOk x) :
    Calls Try.prog 21 #[.agg #[.int .u32 x.ver, .slice A x.gs.length c, .slice A2 x.cs.length c2]] w (PutR (cData x) w) := by
  obtain ⟨C, hCe⟩ : ∃ C : Array Value, C = #[.int .u32 x.ver, .slice A x.gs.length c, .slice A2 x.cs.length c2] := ⟨_, rfl⟩
  obtain ⟨n, hn⟩ : ∃ n, w.heap.size = n := ⟨_, rfl⟩
  have hgc := Blk.new w 28 #[.int .u32 x.ver, .slice A x.gs.length c, .slice A2 x.cs.length c2]
  have hb1 := bal (Below.refl w.heap.size w) (.cells #[.int .u32 x.ver, .slice A x.gs.length c, .slice A2 x.cs.length c2] 28)
  have hz1 : (w.alloc (.cells #[.int .u32 x.ver, .slice A x.gs.length c, .slice A2 x.cs.length c2] 28)).heap.size = n + 1 := by simp [hn]
  have hCw := hC
  go_enter Try.func21, Try.ntmps21
  go_upto_region 1 with (fail)
  rw [hn] at hgc
  have hb1n := hb1
  generalize w.alloc (.cells #[.int .u32 x.ver, .slice A x.gs.length c, .slice A2 x.cs.length c2] 28) = w1 at *
  have hgw := Blk.new w1 90 #[.slice none 0 0]
  have hb2 := bal (Below.refl w1.heap.size w1) (.cells #[.slice none 0 0] 90)
  have hz2 : (w1.alloc (.cells #[.slice none 0 0] 90)).heap.size = n + 2 := by simp [hz1]
  have hgp := Blk.new (w1.alloc (.cells #[.slice none 0 0] 90)) 88 #[.pointer (some ⟨n + 1, 0, none⟩)]
  have hb3 := bal' hb2 (.cells #[.pointer (some ⟨n + 1, 0, none⟩)] 88)
  have hz3 : ((w1.alloc (.cells #[.slice none 0 0] 90)).alloc (.cells #[.pointer (some ⟨n + 1, 0, none⟩)] 88)).heap.size = n + 3 := by simp [hz1]
  rw [hz1] at hgw
  rw [hz2] at hgp
  have hgw3 := hgw.alloc (.cells #[.pointer (some ⟨n + 1, 0, none⟩)] 88)
  have hgc3 := hgc.kept hb3
  go_upto_region 2 with (fail)
  have hb30 : Below w.heap.size w ((w1.alloc (.cells #[.slice none 0 0] 90)).alloc (.cells #[.pointer (some ⟨n + 1, 0, none⟩)] 88)) := hb1n.trans (hb3.mono hb1n.size)
  generalize (w1.alloc (.cells #[.slice none 0 0] 90)).alloc (.cells #[.pointer (some ⟨n + 1, 0, none⟩)] 88) = w3 at *
  clear hgc hgw hb1 hb2 hb3 hz1 hz2 hb1n
  have H := caughtPut #[.pointer (some ⟨n, 0, none⟩), .pointer (some ⟨n + 2, 0, none⟩)] (fun i => i = n + 1) (fun a e => a = 0 ∧ e = putE (cData x) ∧ putE (cData x) ≠ 0)
    (fun W' => putE (cData x) = 0 ∧ (∃ v u, Blk W' (n + 3) 3 #[v] ∧ Blk W' (n + 4) 29 #[u]) ∧ Blk W' (n + 2) 88 #[.pointer (some ⟨n + 1, 0, none⟩)] ∧ ∃ A' c', Blk W' (n + 1) 90 #[.slice A' (putB (cData x)).length c'] ∧ W'.ownsRow (n + 1) 5 1 (.slice A' (putB (cData x)).length c') (putB (cData x)).length ((putB (cData x)).flatMap encB))
    (fun W' => putE (cData x) = 0 ∧ Blk W' (n + 2) 88 #[.pointer (some ⟨n + 1, 0, none⟩)] ∧ ∃ A' c', Blk W' (n + 1) 90 #[.slice A' (putB (cData x)).length c'] ∧ W'.ownsRow (n + 1) 5 1 (.slice A' (putB (cData x)).length c') (putB (cData x)).length ((putB (cData x)).flatMap encB)) w3
    (fun i hi => by omega)
    (fun W hW hs hR hE => by
      rw [hz3] at hR hE hs
      have hP : PWr n (n + 2) (n + 1) #[.int .u32 x.ver, .slice A x.gs.length c, .slice A2 x.cs.length c2] [] W W := ⟨⟨Nat.le_refl _, none, 0, hgw3.kept hW, World.ownsRow_nil _ _ _ _⟩, hgc3.kept hW, hgp.kept hW, Wrt.refl _ _ _, by omega, by omega, by omega⟩
      have h := put1_any n (n + 2) (n + 1) x A c A2 c2 W hP (by
        rw [hn] at hCw
        exact hCw.below ((hn ▸ hb30).trans (hW.mono (by omega)))) hf
      refine h.mono fun e W' ⟨h1, h2⟩ => ⟨near_of_wrt h1 (fun i hi1 hi2 => ?_), ?_⟩
      · have hcase : i = n + 2 ∨ i = n + 3 ∨ i = n + 4 := by omega
        rcases hcase with rfl | rfl | rfl
        · exact ⟨_, _, _, hgp.kept hW, by decide⟩
        · exact ⟨_, _, _, hR, by decide⟩
        · exact ⟨_, _, _, hE, by decide⟩
      · rcases h2 with ⟨h2, h3⟩ | ⟨h2, h3, h4⟩
        · exact .inl ⟨0, _, h3, rfl, rfl, h2⟩
        · obtain ⟨_, A', c', h5, h6⟩ := h4.st
          exact .inr ⟨h3, h2, ⟨_, _, hR.wrt h1 (by decide) (by omega), hE.wrt h1 (by decide) (by omega)⟩, h4.bp, A', c', h5, h6⟩)
    (fun W W' ⟨h1, ⟨v, u, h2, h3⟩, h4, A', c', h5, h6⟩ hN => by
      rw [hz3] at hN
      have hr : W'.ownsRow (n + 1) 5 1 (.slice A' (putB (cData x)).length c') (putB (cData x)).length ((putB (cData x)).flatMap encB) := own_same h6 fun k hk => hN.block k (own_lt h6 hk).2 (fun hs => by
        rcases hs with rfl | rfl
        · exact own_blk_ne h6 h2 (by decide) hk.symm
        · exact own_blk_ne h6 h3 (by decide) hk.symm)
      exact ⟨h1, h4.apart hN (by omega), A', c', h5.apart hN (by omega), hr⟩)
  have HH := Lib.hid H
  have HZ3 := Lib.hid hz3
  clear H hf hC hCw hgw3 hgc3 hgp
  go_upto_region 3 with (go_at_call 26; refine HH.out.mono ?_; rintro e1 w4 ⟨hn4, ⟨a, e, ⟨rfl, rfl, h1⟩, rfl⟩ | ⟨rfl, h1, h4, A', c', h5, h6⟩⟩)
  · have hd : (putE (cData x) != 0) = true := by simp; exact h1
    have hbl : Below w.heap.size w w4 := hb30.trans (hn4.below (fun i hi => by omega) hb30.size)
    go_wp2_with fail
    go_ret2
    exact ⟨hbl, .inl ⟨h1, rfl⟩⟩
  · have cP := h4.cell
    have cW := h5.cell
    have hbl : Below w.heap.size w w4 := hb30.trans (hn4.below (fun i hi => by omega) hb30.size)
    go_wp2_with fail
    go_ret2
    exact ⟨hbl, .inr ⟨h1, A', c', rfl, own_le_base h6 (by omega)⟩⟩
end Go.Proofs.Ytmhbpfclfffgkaa
