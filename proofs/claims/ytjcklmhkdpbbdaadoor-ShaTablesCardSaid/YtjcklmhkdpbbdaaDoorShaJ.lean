/- Chapter 3: the end of a state: its sum. -/
import Derived.Test.YtjcklmhkdpbbdaaDoorShaI
import Derived.Test.YtjcklmhkdpbbdaaDoorCat
namespace Go.Proofs.YtjcklmhkdpbbdaaDoor
set_option linter.unusedVariables false
set_option linter.unusedSimpArgs false
open Go.RowKit Go.Sort

theorem own_apart {w : World} {b : Nat} {e : TypeId} {s n m c : Nat} {A : Option Addr} {xs : List Value} (h : w.ownsRow b e s (.slice A n c) m xs) {g : Nat} (hg : g < b) : ∀ ad, A = some ad → ad.block ≠ g := by
  rintro ad rfl
  rcases h.2 with ⟨h, _⟩ | ⟨g', cap, cur, hv, hle, _⟩
  · cases h
  · injection hv with hv
    injection hv with hv
    subst hv
    show g' ≠ g
    omega
theorem own_cap {w : World} {b : Nat} {e : TypeId} {s n m c : Nat} {A : Option Addr} {xs : List Value} (h : w.ownsRow b e s (.slice A n c) m xs) : n ≤ c := by
  obtain ⟨A', c', he, h, _⟩ := own_slice h
  simp only [Value.slice.injEq] at he
  omega
theorem near_set_new {S : Nat → Prop} {a w : World} (h : Near S a w) {p : Addr} (hp : a.heap.size ≤ p.block) (u : Value) : Near S a (w.setCell p u) :=
  ⟨h.os, h.tape, h.output, by simpa using h.size, fun i hi hn => (Below.heap_setCell w p u i (fun e => by subst e; omega)).trans (h.block i hi hn)⟩
theorem near_below_new {S : Nat → Prop} {a w w' : World} (h : Near S a w) (hb : Below a.heap.size w w') : Near S a w' :=
  ⟨hb.os.trans h.os, hb.tape.trans h.tape, hb.output.trans h.output, Nat.le_trans h.size hb.size, fun i hi hn => (hb.block i hi).trans (h.block i hi hn)⟩
theorem stCs_range {w : World} {g : Nat} {t : TypeId} {h : V8} {sm : List Int} {n : Int} {tl : List Value} (hB : Blk w g t (stCs h sm n ++ tl).toArray) : w.rangeAt g 0 h.cs := by
  intro j u hu
  rw [Nat.zero_add, hB.cell j, List.getElem?_toArray]
  unfold stCs
  rw [List.append_assoc, List.getElem?_append_left (List.getElem?_eq_some_iff.1 hu).1]
  exact hu
/-- A byte of a word. -/
def bw (x : BitVec 32) (s : Nat) : Int := iw x / 2 ^ s % 256
theorem bw_bd (x : BitVec 32) (s : Nat) : 0 ≤ bw x s ∧ bw x s < 256 := by unfold bw; omega
/-- The bytes of eight words. -/
def outB (v : V8) : List Int := [bw v.a 24, bw v.a 16, bw v.a 8, bw v.a 0, bw v.b 24, bw v.b 16, bw v.b 8, bw v.b 0, bw v.c 24, bw v.c 16, bw v.c 8, bw v.c 0, bw v.d 24, bw v.d 16, bw v.d 8, bw v.d 0, bw v.e 24, bw v.e 16, bw v.e 8, bw v.e 0, bw v.f 24, bw v.f 16, bw v.f 8, bw v.f 0, bw v.g 24, bw v.g 16, bw v.g 8, bw v.g 0, bw v.h 24, bw v.h 16, bw v.h 8, bw v.h 0]
def outN (v : V8) (k : Nat) : List Int := [if 0 < k then bw v.a 24 else 0, if 0 < k then bw v.a 16 else 0, if 0 < k then bw v.a 8 else 0, if 0 < k then bw v.a 0 else 0, if 1 < k then bw v.b 24 else 0, if 1 < k then bw v.b 16 else 0, if 1 < k then bw v.b 8 else 0, if 1 < k then bw v.b 0 else 0, if 2 < k then bw v.c 24 else 0, if 2 < k then bw v.c 16 else 0, if 2 < k then bw v.c 8 else 0, if 2 < k then bw v.c 0 else 0, if 3 < k then bw v.d 24 else 0, if 3 < k then bw v.d 16 else 0, if 3 < k then bw v.d 8 else 0, if 3 < k then bw v.d 0 else 0, if 4 < k then bw v.e 24 else 0, if 4 < k then bw v.e 16 else 0, if 4 < k then bw v.e 8 else 0, if 4 < k then bw v.e 0 else 0, if 5 < k then bw v.f 24 else 0, if 5 < k then bw v.f 16 else 0, if 5 < k then bw v.f 8 else 0, if 5 < k then bw v.f 0 else 0, if 6 < k then bw v.g 24 else 0, if 6 < k then bw v.g 16 else 0, if 6 < k then bw v.g 8 else 0, if 6 < k then bw v.g 0 else 0, if 7 < k then bw v.h 24 else 0, if 7 < k then bw v.h 16 else 0, if 7 < k then bw v.h 8 else 0, if 7 < k then bw v.h 0 else 0]
theorem outN_all (v : V8) : outN v 8 = outB v := rfl
theorem outN_len (v : V8) (k : Nat) : (outN v k).length = 32 := rfl
theorem outB_len (v : V8) : (outB v).length = 32 := rfl
theorem outB_ok (v : V8) : BytesOk (outB v) := by
  intro x hx
  simp only [outB, List.mem_cons, List.not_mem_nil, or_false] at hx
  rcases hx with rfl | rfl | rfl | rfl | rfl | rfl | rfl | rfl | rfl | rfl | rfl | rfl | rfl | rfl | rfl | rfl | rfl | rfl | rfl | rfl | rfl | rfl | rfl | rfl | rfl | rfl | rfl | rfl | rfl | rfl | rfl | rfl <;> exact bw_bd _ _
theorem outN_set (v : V8) {k : Nat} (hk : k < 8) : (((((outN v k).flatMap encB).set (4 * k) (.int .u8 (bw (v.get k) 24))).set (4 * k + 1) (.int .u8 (bw (v.get k) 16))).set (4 * k + 2) (.int .u8 (bw (v.get k) 8))).set (4 * k + 3) (.int .u8 (bw (v.get k) 0)) = (outN v (k + 1)).flatMap encB := by
  match k, hk with
  | 0, _ => rfl
  | 1, _ => rfl
  | 2, _ => rfl
  | 3, _ => rfl
  | 4, _ => rfl
  | 5, _ => rfl
  | 6, _ => rfl
  | 7, _ => rfl
theorem outN_zero (v : V8) : (outN v 0).flatMap encB = List.replicate 32 (.int .u8 0) := rfl
/-- The sum of bytes. -/
def sumV (v : V8) (l : List Int) : V8 := hashN v (l ++ padB l.length) ((l ++ padB l.length).length / 64)
def sumB (l : List Int) : List Int := outB (sumV vI l)
theorem info_node : (Tryd.prog.info? 26).map (fun i => (i.zero, i.size)) = some (some (.agg (Array.replicate 32 (.int .u8 0))), 32) := by kernel_rfl
theorem wpList_store_node {ops : Array Oper} {rest : List Oper} {op : Oper} {a : Act} {w : World} {Q : Exit → Act → World → Prop} (hgd : op.guard = none) (x y : Operand) (ho : op.op = .store 26 x y)
    (g : Nat) (l : List Int) (hl : l.length = 32) (hx : a.eval x = .pointer (some ⟨g, 0, none⟩)) (hy : a.eval y = .agg (l.flatMap encB).toArray) {cs : Array Value} (hB : Blk w g 26 cs) (hs : cs.size = 32)
    (h : ∀ w', Blk w' g 26 (l.flatMap encB).toArray → (∀ B, B ≤ g → Below B w w') → w'.heap.size = w.heap.size → (∀ i, i ≠ g → w'.heap[i]? = w.heap[i]?) → wpList Tryd.prog ops Q rest (a.put op.dst undef) w') : wpList Tryd.prog ops Q (op :: rest) a w :=
  wpList_store_blk hgd 26 x y ho g 0 (l.flatMap encB).toArray hx hy hB (by rw [hs, List.size_toArray, flatB_len, hl]; exact Nat.le_refl _) (by rw [List.size_toArray, flatB_len, hl]; kernel_rfl) (all_oneCell_toArray (one_b l)) (setAt_whole (by rw [flatB_len, hs, hl])) h

set_option maxRecDepth 100000 in
set_option maxHeartbeats 4000000 in
theorem end_any (v : V8) (g : Nat) (t : TypeId) (tl : List Value) (h : V8) (sm l : List Int) (w : World) (hR : Rep v l h sm) (hsz : l.length ≤ 100000000000) (hT : Tabs w) (hg : 2 ≤ g)
    (hB : Blk w g t (stCs h sm (l.length : Int) ++ tl).toArray) :
    Calls Tryd.prog 52 #[.pointer (some ⟨g, 0, none⟩)] w fun e w' => e = .returned (.agg ((outB (sumV v l)).flatMap encB).toArray) ∧ Near (fun i => i = g) w w' := by
  obtain ⟨n, hn⟩ : ∃ n, l.length = n := ⟨_, rfl⟩
  have HR := Lib.hid hR
  have HN := Lib.hid hn
  have HT := Lib.hid hT
  have hgl := hB.lt
  have hz := (zero_of_info info_node).1
  have HB0 := Lib.hid (hB.alloc (.cells (Array.replicate 32 (.int .u8 0)) 26))
  have HZ0 := Lib.hid (Blk.new w 26 (Array.replicate 32 (.int .u8 0)))
  have Hb0 := Lib.hid (bal (Below.refl w.heap.size w) (.cells (Array.replicate 32 (.int .u8 0)) 26))
  have c72 := (HB0.out.cell 72).trans (stCs_n hR.ln)
  rw [hn] at c72
  have HP := Lib.hid (fun W => shaPad_any (n : Int) (by omega) (by omega) W)
  have hpk := padK_lt (n : Int)
  have hpl := padB_len (n : Int)
  have hpo := padB_ok (n : Int)
  have HW := Lib.hid (fun (W : World) (A : Option Addr) (c : Nat) (hT : Tabs W) (hB : Blk W g t (stCs h sm (l.length : Int) ++ tl).toArray) (hr : Rd W W.heap.size 1 A (padK (n : Int) + 9) ((padB (n : Int)).flatMap encB)) (hne : 0 < padK (n : Int) + 9 → ∀ ad, A = some ad → ad.block ≠ g) (hmc : padK (n : Int) + 9 ≤ c) =>
    write_any v g t tl h sm l (padB (n : Int)) A (padK (n : Int) + 9) c W hR (by omega) hT hg hB hpl hpo hr hne hmc)
  have HS := Lib.hid (show sumV v l = hashN v (l ++ padB (n : Int)) ((l ++ padB (n : Int)).length / 64) by unfold sumV; rw [hn])
  generalize padB (n : Int) = pb at *
  generalize padK (n : Int) = pk at *
  clear hR hn hT hB
  go_enter Tryd.func52, Tryd.ntmps52
  go_upto_region 1 with (fail)
  go_upto_region 2 with (first
    | (go_at_call 19; refine (HP.out _).mono ?_; rintro e w1 ⟨A1, c1, rfl, hown, hb1⟩
       have hle1 : g < (w.alloc (.cells (Array.replicate 32 (.int .u8 0)) 26)).heap.size := by simp; omega
       have HWr := Lib.hid (HW.out w1 A1 c1 ((HT.out.alloc _).kept hb1) (HB0.out.kept hb1) (Rd.of_own hown) (fun _ => own_apart hown hle1) (own_cap hown)))
    | (go_at_call 51; refine HWr.out.mono ?_; rintro e w2 ⟨rfl, h', sm', hR', hB', hn'⟩))
  have hbw1 := Hb0.out.trans (hb1.mono Hb0.out.size)
  have hZ2 : Blk w2 w.heap.size 26 (Array.replicate 32 (.int .u8 0)) := (HZ0.out.kept hb1).same (hn'.block _ (HZ0.out.kept hb1).lt (by omega))
  have hnw2 : Near (fun i => i = g) w w2 := (Near.of_below _ hbw1).trans hn'
  have HF : Hid (h' = sumV v l) := Lib.hid (by rw [hR'.hs, HS.out])
  have HL2 := Lib.hid hR'.ln
  clear hb1 hown hbw1 HWr hR' hn' HP HW HS HR
  go_upto_region 3 with (fail)
  refine wp_name ?_
  intro w3 hw3
  have hb23 : RowKit.Below w2.heap.size w2 w3 := by rw [hw3]; exact bal (Below.refl _ _) _
  have hG3 : Blk w3 w2.heap.size 26 ((outN h' 0).flatMap encB).toArray := by rw [hw3, outN_zero, List.toArray_replicate]; exact Blk.new w2 26 (Array.replicate 32 (.int .u8 0))
  have hB3 := hB'.kept hb23
  have hZ3 := hZ2.kept hb23
  have hn3 : Near (fun i => i = g) w w3 := hnw2.trans (Near.of_below _ hb23)
  have hGw : w.heap.size < w2.heap.size := by have := hZ2.lt; omega
  have HR3 := Lib.hid (stCs_range hB3)
  have HI0 : Hid (Blk w3 w2.heap.size 26 ((outN h' 0).flatMap encB).toArray ∧ Blk w3 w.heap.size 26 (Array.replicate 32 (.int .u8 0)) ∧ Near (fun i => i = g) w w3) := Lib.hid ⟨hG3, hZ3, hn3⟩
  have HGw := Lib.hid hGw
  obtain ⟨C0, hC0⟩ : ∃ x, h'.cs = x := ⟨_, rfl⟩
  have HC0 := Lib.hid hC0
  rw [hC0] at HR3
  obtain ⟨G, hG⟩ : ∃ G, w2.heap.size = G := ⟨_, rfl⟩
  rw [hG] at HI0 HGw ⊢
  clear hw3 hb23 hG3 hB3 hZ3 hn3 hGw hB' hZ2 hnw2 hC0 hG HB0 HZ0 Hb0 c72 hz
  go_wp2_with (refine wpList_load_mid rfl 35 (.tmp 15) rfl g 0 (by rfl) C0 _ HR3.out Tryd.underlying35 rfl (by rw [← HC0.out]; kernel_rfl) ?_)
  go_loopw [17] (fun i wr => ∃ k : Nat, k ≤ 8 ∧ i = .int .i64 k ∧ Hid (Blk wr G 26 ((outN h' k).flatMap encB).toArray ∧ Blk wr w.heap.size 26 (Array.replicate 32 (.int .u8 0)) ∧ Near (fun i => i = g) w wr)) (fun i _ => 8 - (intOf i).toNat)
  case atStart => exact ⟨0, by omega, rfl, HI0⟩
  case round =>
    obtain ⟨k, hk, rfl, HI⟩ := hrel
    clear HI0 HR3
    by_cases hlt : k < 8
    · have hix : ∀ W, (Instr.index 35 (.agg C0.toArray) (.int .i64 (k : Int))).run Tryd.prog W = .ok (.int .u32 (iw (h'.get k))) W := fun W => by
        rw [← HC0.out]
        exact run_index_arr Tryd.underlying35 (by kernel_rfl) info_u32b hlt (by rw [List.getElem?_toArray]; exact V8.cs_at _ hlt) W
      have HSt := Lib.hid (outN_set h' hlt)
      obtain ⟨j0, hj0⟩ : ∃ j, 4 * k = j := ⟨_, rfl⟩
      obtain ⟨j1, hj1⟩ : ∃ j, 4 * k + 1 = j := ⟨_, rfl⟩
      obtain ⟨j2, hj2⟩ : ∃ j, 4 * k + 2 = j := ⟨_, rfl⟩
      obtain ⟨j3, hj3⟩ : ∃ j, 4 * k + 3 = j := ⟨_, rfl⟩
      rw [hj1, hj2, hj3, hj0] at HSt
      have p0 : IntKind.i64.wrap (4 * (k : Int)) = (j0 : Int) := by rw [IntWalk.i64_in _ (by omega)]; omega
      have p1 : IntKind.i64.wrap ((j0 : Int) + 1) = (j1 : Int) := by rw [IntWalk.i64_in _ (by omega)]; omega
      have p2 : IntKind.i64.wrap ((j0 : Int) + 2) = (j2 : Int) := by rw [IntWalk.i64_in _ (by omega)]; omega
      have p3 : IntKind.i64.wrap ((j0 : Int) + 3) = (j3 : Int) := by rw [IntWalk.i64_in _ (by omega)]; omega
      have q0 : 4 * (k : Int) = (j0 : Int) := by omega
      have n0 : (j0 : Int) < 32 := by omega
      have n1 : (j1 : Int) < 32 := by omega
      have n2 : (j2 : Int) < 32 := by omega
      have n3 : (j3 : Int) < 32 := by omega
      have m01 : j1 ≠ j0 := by omega
      have m02 : j2 ≠ j0 := by omega
      have m03 : j3 ≠ j0 := by omega
      have m12 : j2 ≠ j1 := by omega
      have m13 : j3 ≠ j1 := by omega
      have m23 : j3 ≠ j2 := by omega
      have q1 : (j0 : Int) + 1 = (j1 : Int) := by omega
      have q2 : (j0 : Int) + 2 = (j2 : Int) := by omega
      have q3 : (j0 : Int) + 3 = (j3 : Int) := by omega
      have hcl : ∀ j, j < 32 → ∃ u, wr.cell? ⟨G, j, none⟩ = some u := fun j hj => by
        rw [HI.out.1.cell j, List.getElem?_toArray]
        have : j < ((outN h' k).flatMap encB).length := by rw [flatB_len, outN_len]; exact hj
        exact ⟨_, List.getElem?_eq_getElem this⟩
      obtain ⟨u0, c0⟩ := hcl j0 (by omega)
      obtain ⟨u1, c1⟩ := hcl j1 (by omega)
      obtain ⟨u2, c2⟩ := hcl j2 (by omega)
      obtain ⟨u3, c3⟩ := hcl j3 (by omega)
      have hfz := HI.out.1.frozen
      clear hj0 hj1 hj2 hj3 hcl
      have hyb := iw_bd (h'.get k)
      have b0 : IntKind.u8.wrap (iw (h'.get k) / 16777216) = bw (h'.get k) 24 := by rw [IntKind.wrap_u8']; rfl
      have b1 : IntKind.u8.wrap (iw (h'.get k) / 65536) = bw (h'.get k) 16 := by rw [IntKind.wrap_u8']; rfl
      have b2 : IntKind.u8.wrap (iw (h'.get k) / 256) = bw (h'.get k) 8 := by rw [IntKind.wrap_u8']; rfl
      have b3 : IntKind.u8.wrap (iw (h'.get k)) = bw (h'.get k) 0 := by rw [IntKind.wrap_u8']; unfold bw; simp
      have b0' : iw (h'.get k) / 16777216 % 256 = bw (h'.get k) 24 := rfl
      have b1' : iw (h'.get k) / 65536 % 256 = bw (h'.get k) 16 := rfl
      have b2' : iw (h'.get k) / 256 % 256 = bw (h'.get k) 8 := rfl
      have b3' : iw (h'.get k) % 256 = bw (h'.get k) 0 := by unfold bw; simp
      generalize bw (h'.get k) 24 = z0 at *
      generalize bw (h'.get k) 16 = z1 at *
      generalize bw (h'.get k) 8 = z2 at *
      generalize bw (h'.get k) 0 = z3 at *
      generalize iw (h'.get k) = y at *
      go_upto_region 6 with (fail)
      have HN := Lib.hid (show Blk ((((wr.setCell ⟨G, j0, none⟩ (.int .u8 z0)).setCell ⟨G, j1, none⟩ (.int .u8 z1)).setCell ⟨G, j2, none⟩ (.int .u8 z2)).setCell ⟨G, j3, none⟩ (.int .u8 z3)) G 26 ((outN h' (k + 1)).flatMap encB).toArray ∧ Blk ((((wr.setCell ⟨G, j0, none⟩ (.int .u8 z0)).setCell ⟨G, j1, none⟩ (.int .u8 z1)).setCell ⟨G, j2, none⟩ (.int .u8 z2)).setCell ⟨G, j3, none⟩ (.int .u8 z3)) w.heap.size 26 (Array.replicate 32 (.int .u8 0)) ∧ Near (fun i => i = g) w ((((wr.setCell ⟨G, j0, none⟩ (.int .u8 z0)).setCell ⟨G, j1, none⟩ (.int .u8 z1)).setCell ⟨G, j2, none⟩ (.int .u8 z2)).setCell ⟨G, j3, none⟩ (.int .u8 z3)) from by
        have hgw := HGw.out
        have h1 := (((HI.out.1.set_ j0 (.int .u8 z0)).set_ j1 (.int .u8 z1)).set_ j2 (.int .u8 z2)).set_ j3 (.int .u8 z3)
        rw [List.setIfInBounds_toArray, List.setIfInBounds_toArray, List.setIfInBounds_toArray, List.setIfInBounds_toArray, HSt.out] at h1
        exact ⟨h1, (((HI.out.2.1.far (by simp; omega) _).far (by simp; omega) _).far (by simp; omega) _).far (by simp; omega) _, near_set_new (near_set_new (near_set_new (near_set_new HI.out.2.2 (by simp; omega) _) (by simp; omega) _) (by simp; omega) _) (by simp; omega) _⟩)
      clear HI HSt
      go_wp2
      go_roundw
      case rel => exact ⟨k + 1, by omega, by go_num, HN⟩
      case measure => simp [intOf]; omega
    · have HE : Hid (Blk wr G 26 ((outB h').flatMap encB).toArray ∧ Blk wr w.heap.size 26 (Array.replicate 32 (.int .u8 0)) ∧ Near (fun i => i = g) w wr) := Lib.hid (by
        have := HI.out
        obtain rfl : k = 8 := by omega
        exact this)
      clear HI
      have HOl := Lib.hid (outB_len h')
      rw [HF.out] at HE HOl
      obtain ⟨ob, hob⟩ : ∃ x, outB (sumV v l) = x := ⟨_, rfl⟩
      rw [hob] at HE HOl
      have HOb := Lib.hid hob
      clear hob
      have HLn := Lib.hid (show (ob.flatMap encB).length = 32 by rw [flatB_len, HOl.out])
      go_wp2_with (first
        | (refine wpList_load_mid rfl 26 (.tmp 3) rfl G 0 (by rfl) (ob.flatMap encB) _ HE.out.1.range Tryd.underlying26 rfl (by rw [HLn.out]; kernel_rfl) ?_)
        | (refine wpList_store_node rfl (.tmp 2) (.tmp 48) rfl w.heap.size ob HOl.out (by rfl) (by rfl) HE.out.2.1 (by simp) ?_; intro w6 hB6 hbl6 hz6 hh6))
      exact bodyPost_ret (res_cell1 rfl (b := w.heap.size) (o := 0) (cs := ob.flatMap encB) rfl hB6.range Tryd.underlying26 rfl (by rw [HLn.out]; kernel_rfl)) rfl ⟨by rw [HOb.out], near_below_new HE.out.2.2 (hbl6 _ (Nat.le_refl _))⟩
end Go.Proofs.YtjcklmhkdpbbdaaDoor
