/- The tree of a board (host.Tree); walked. -/
import Derived.Test.YtnkpaockginooaaHostC
import Derived.Test.YtnkpaockginooaaVal
import Derived.Test.YtnkpaockginooaaRegT
namespace Go.Proofs.Ytnkpaockginooaa
set_option linter.unusedVariables false
set_option linter.unusedSimpArgs false
open Go.RowKit Go.Sort

def cpuT (i : Nat) : Tr := .mk (strOfNums (atN [99, 112, 117] i)) [(⟨#[114, 101, 103]⟩, [(i : Int)].flatMap (bytesN 4 false))] []
def cpusT (n : Nat) : Tr := .mk ⟨#[99, 112, 117, 115]⟩ [] ((List.range n).map cpuT)
def hcompP : Pr := (⟨#[99, 111, 109, 112, 97, 116, 105, 98, 108, 101]⟩, strB ⟨#[112, 111, 114, 116, 114, 101, 101, 118, 101, 44, 104, 111, 115, 116]⟩ ++ [0])
def irqsP (n : Int) : Pr := (⟨#[105, 114, 113, 115]⟩, [n].flatMap (bytesN 4 false))
def strsP (n : Int) : Pr := (⟨#[115, 116, 114, 101, 97, 109, 115]⟩, [n].flatMap (bytesN 4 false))
def hrootT (x : Bd) : Tr := .mk ⟨#[]⟩ [hcompP, irqsP x.irqs, strsP x.strs] []
def hostT (x : Bd) : Tr := .mk ⟨#[]⟩ [hcompP, irqsP x.irqs, strsP x.strs] [cpusT x.cpus.toNat, stretchT [109, 101, 109, 111, 114, 121] x.rb x.rs, stretchT [108, 111, 97, 100, 101, 114] x.lb x.ls]
theorem Blk.turn {w w' : World} {g : Nat} {T : TypeId} {cs : Array Value} (h : Blk w g T cs) (hT : T ≠ 5) (hb : Turn w w') : Blk w' g T cs := by
  rcases hb.block g h.lt with e | ⟨cs', f1, f2, e1, _⟩
  · exact h.same e
  · unfold Blk at h
    rw [h] at e1
    simp only [Option.some.injEq, Obj.cells.injEq] at e1
    exact absurd e1.2.1 hT
/-- A new box for a node. -/
def BoxV (B : Nat) (T : TypeId) (cs : Array Value) (hT : T ≠ 5 := by decide) : SP := ⟨fun w v => ∃ g, v = .pointer (some ⟨g, 0, none⟩) ∧ B ≤ g ∧ Blk w g T cs, fun ⟨g, h1, h2, h3⟩ hb => ⟨g, h1, h2, h3.turn hT hb⟩⟩
set_option maxRecDepth 100000 in
set_option maxHeartbeats 2000000 in
theorem htree_yes (x : Bd) (hx : BdOk x) (hfit : fitB x = true) (w : World) : Calls Try.prog 29 #[.agg (encBd x).toArray] w fun e w' => ∃ v, e = .returned (.tuple #[v, .int .i64 0]) ∧ TrP (fun _ => False) (hostT x) w' v ∧ Below w.heap.size w w' := by
  have HF := Lib.hid (fun w => fit_any x hx w)
  rw [hfit] at HF
  obtain ⟨rb, rs, lb, ls, n0, n1, n2⟩ := x
  obtain ⟨h1, h2, h3, h4, h5, h6, h7⟩ := hx
  simp only at h1 h2 h3 h4 h5 h6 h7
  unfold fitB at hfit
  simp only [Bool.and_eq_true] at hfit
  have hi0 := inB_yes hfit.1.1.2
  have hi1 := inB_yes hfit.1.2
  have hi2 := inB_yes hfit.2
  have hq0 : 0 ≤ n0 ∧ n0 < 4294967296 := by omega
  have hq1 : 0 ≤ n1 ∧ n1 < 4294967296 := by omega
  obtain ⟨n, rfl⟩ := Int.eq_ofNat_of_zero_le (show 0 ≤ n2 by omega)
  have hn32 : n ≤ 32 := by omega
  have hu0 : IntKind.u32.wrap n0 = n0 := by show n0 % 4294967296 = n0; omega
  have hu1 : IntKind.u32.wrap n1 = n1 := by show n1 % 4294967296 = n1; omega
  have hu2 : IntKind.u32.wrap n = n := by show (n : Int) % 4294967296 = n; omega
  clear hfit h5 h6 h7
  have HB := Lib.hid (bal (bal (Below.refl w.heap.size w) (.cells #[.int .u64 rb, .int .u64 rs, .int .u64 lb, .int .u64 ls, .int .i64 n0, .int .i64 n1, .int .i64 n] 39)) (.cells #[.string ⟨#[]⟩, .slice none 0 0, .slice none 0 0] 25))
  have HS := Lib.hid ((Blk.new w 39 #[.int .u64 rb, .int .u64 rs, .int .u64 lb, .int .u64 ls, .int .i64 n0, .int .i64 n1, .int .i64 n]).alloc (.cells #[.string ⟨#[]⟩, .slice none 0 0, .slice none 0 0] 25))
  have HR := Lib.hid (Blk.fresh (w.alloc (.cells #[.int .u64 rb, .int .u64 rs, .int .u64 lb, .int .u64 ls, .int .i64 n0, .int .i64 n1, .int .i64 n] 39)) 25 #[.string ⟨#[]⟩, .slice none 0 0, .slice none 0 0] (g := w.heap.size + 1))
  rw [show (encBd ⟨rb, rs, lb, ls, n0, n1, n⟩).toArray = #[.int .u64 rb, .int .u64 rs, .int .u64 lb, .int .u64 ls, .int .i64 n0, .int .i64 n1, .int .i64 n] from rfl] at HF ⊢
  go_enter Try.func29, Try.ntmps29
  go_upto_region 4 with (go_at_call 69; refine (HF.out _).mono ?_; rintro e w1 ⟨rfl, hb1⟩; have hS := HS.out.kept hb1; have hR := HR.out.kept hb1; have hc1 := hS.cell; have hbw := HB.out.trans (hb1.mono HB.out.size); clear hb1)
  clear hc1 HF HS HR HB
  have hz1 : w.heap.size + 1 < w1.heap.size := hR.lt
  refine wp_region_spec 14 [14, 15, 16, 17, 18, 19, 20, 21, 22, 23, 24, 25, 26, 5] [PrV hcompP, .eq (.pointer (some ⟨w.heap.size, 4, none⟩)), .eq (.int .i64 n0), .eq (.int .u32 n0), RowV 44 encU32 1 [n0], PrV (irqsP n0),
    .eq (.pointer (some ⟨w.heap.size, 5, none⟩)), .eq (.int .i64 n1), .eq (.int .u32 n1), RowV 44 encU32 1 [n1], PrV (strsP n1), PsV (fun b => b = w.heap.size + 1) [hcompP, irqsP n0, strsP n1], TrV (fun b => b = w.heap.size + 1) (hrootT ⟨rb, rs, lb, ls, n0, n1, n⟩),
    BoxV w1.heap.size 25 #[.string ⟨#[]⟩, .slice none 0 0, .slice none 0 0]] (by kernel_rfl) (by kernel_rfl) ?_ ?_
  · unfold StepS
    simp only [List.take_succ_cons, List.take_zero, fillA, fillL, List.setIfInBounds_toArray, List.set_cons_succ, List.set_cons_zero, Nat.zero_add, Nat.reduceAdd]
    refine StepsOk.cons (fun vals w' hb hd K hK => ?_) ?_
    · go_simp
      go_at_call 71
      refine (hsaid_any _ _ _ (by decide) (by decide)).mono ?_
      rintro e w2 ⟨v, rfl, hp, hb2⟩
      exact hK.out _ _ _ hb2 hp (by kernel_rfl)
    refine StepsOk.cons (fun vals w' hb hd K hK => ?_) ?_
    · go_simp
      exact hK.out _ _ _ (Below.refl _ _) rfl (by kernel_rfl)
    refine StepsOk.cons (fun vals w' hb hd K hK => ?_) ?_
    · have d1 := hd 1 (by decide)
      simp only [List.getD_cons_zero, List.getD_cons_succ, SP.eq] at d1
      have hS' := (hS.kept hb).cell
      go_simp
      exact hK.out _ _ _ (Below.refl _ _) rfl (by simp only [d1, Act.put, List.setIfInBounds_toArray, List.set_cons_succ, List.set_cons_zero])
    refine StepsOk.cons (fun vals w' hb hd K hK => ?_) ?_
    · have d2 := hd 2 (by decide)
      simp only [List.getD_cons_zero, List.getD_cons_succ, SP.eq] at d2
      go_simp
      exact hK.out _ _ _ (Below.refl _ _) rfl (by simp only [d2, Act.put, List.setIfInBounds_toArray, List.set_cons_succ, List.set_cons_zero])
    refine StepsOk.cons (fun vals w' hb hd K hK => ?_) ?_
    · have d3 := hd 3 (by decide)
      simp only [List.getD_cons_zero, List.getD_cons_succ, SP.eq] at d3
      go_simp
      exact hK.out _ _ _ (bal (Below.refl _ _) _) (RowP.fresh _ [n0] _ 1 _ rfl rfl rfl rfl (by decide)) (by simp only [d3, Act.put, List.setIfInBounds_toArray, List.set_cons_succ, List.set_cons_zero])
    refine StepsOk.cons (fun vals w' hb hd K hK => ?_) ?_
    · have d4 := hd 4 (by decide)
      simp only [List.getD_cons_zero, List.getD_cons_succ, SP.eq] at d4
      obtain ⟨A, c, hv, h1, h2, h3, _⟩ := d4
      simp only [List.length_cons, List.length_nil, Nat.zero_add, Nat.reduceAdd] at hv h3
      go_simp
      go_at_call 72
      refine (hfour_any _ A 1 c [n0] _ (by decide) rfl (by decide) (by intro x hx; simp at hx; subst hx; exact hq0) h3).mono ?_
      rintro e w2 ⟨v, rfl, hp, hb2⟩
      exact hK.out _ _ _ hb2 hp (by simp only [hv, Act.put, List.setIfInBounds_toArray, List.set_cons_succ, List.set_cons_zero])
    refine StepsOk.cons (fun vals w' hb hd K hK => ?_) ?_
    · go_simp
      exact hK.out _ _ _ (Below.refl _ _) rfl (by kernel_rfl)
    refine StepsOk.cons (fun vals w' hb hd K hK => ?_) ?_
    · have d6 := hd 6 (by decide)
      simp only [List.getD_cons_zero, List.getD_cons_succ, SP.eq] at d6
      have hS' := (hS.kept hb).cell
      go_simp
      exact hK.out _ _ _ (Below.refl _ _) rfl (by simp only [d6, Act.put, List.setIfInBounds_toArray, List.set_cons_succ, List.set_cons_zero])
    refine StepsOk.cons (fun vals w' hb hd K hK => ?_) ?_
    · have d7 := hd 7 (by decide)
      simp only [List.getD_cons_zero, List.getD_cons_succ, SP.eq] at d7
      go_simp
      exact hK.out _ _ _ (Below.refl _ _) rfl (by simp only [d7, Act.put, List.setIfInBounds_toArray, List.set_cons_succ, List.set_cons_zero])
    refine StepsOk.cons (fun vals w' hb hd K hK => ?_) ?_
    · have d8 := hd 8 (by decide)
      simp only [List.getD_cons_zero, List.getD_cons_succ, SP.eq] at d8
      go_simp
      exact hK.out _ _ _ (bal (Below.refl _ _) _) (RowP.fresh _ [n1] _ 1 _ rfl rfl rfl rfl (by decide)) (by simp only [d8, Act.put, List.setIfInBounds_toArray, List.set_cons_succ, List.set_cons_zero])
    refine StepsOk.cons (fun vals w' hb hd K hK => ?_) ?_
    · have d9 := hd 9 (by decide)
      simp only [List.getD_cons_zero, List.getD_cons_succ, SP.eq] at d9
      obtain ⟨A, c, hv, h1, h2, h3, _⟩ := d9
      simp only [List.length_cons, List.length_nil, Nat.zero_add, Nat.reduceAdd] at hv h3
      go_simp
      go_at_call 72
      refine (hfour_any _ A 1 c [n1] _ (by decide) rfl (by decide) (by intro x hx; simp at hx; subst hx; exact hq1) h3).mono ?_
      rintro e w2 ⟨v, rfl, hp, hb2⟩
      exact hK.out _ _ _ hb2 hp (by simp only [hv, Act.put, List.setIfInBounds_toArray, List.set_cons_succ, List.set_cons_zero])
    refine StepsOk.cons (fun vals w' hb hd K hK => ?_) ?_
    · have d0 := hd 0 (by decide)
      simp only [List.getD_cons_zero, List.getD_cons_succ, SP.eq] at d0
      have d5 := hd 5 (by decide)
      simp only [List.getD_cons_zero, List.getD_cons_succ, SP.eq] at d5
      have d10 := hd 10 (by decide)
      simp only [List.getD_cons_zero, List.getD_cons_succ, SP.eq] at d10
      obtain ⟨A, c, hv, hp⟩ := d0.cells
      obtain ⟨A1, c1, hv1, hp1⟩ := d5.cells
      obtain ⟨A2, c2, hv2, hp2⟩ := d10.cells
      generalize hcompP.2.length = m0 at hv hp
      generalize (irqsP n0).2.length = m1 at hv1 hp1
      generalize (strsP n1).2.length = m2 at hv2 hp2
      go_simp
      exact hK.out _ _ _ (bal (Below.refl _ _) _) (PsP.fresh _ [hcompP, irqsP n0, strsP n1] [_, _, _] _ _ 3 ⟨hp, hp1, hp2, trivial⟩ rfl rfl rfl (by decide) (fun b h => by have := hb.size; omega)) (by simp only [hv, hv1, hv2, Act.put, List.setIfInBounds_toArray, List.set_cons_succ, List.set_cons_zero])
    refine StepsOk.cons (fun vals w' hb hd K hK => ?_) ?_
    · have d11 := hd 11 (by decide)
      simp only [List.getD_cons_zero, List.getD_cons_succ, SP.eq] at d11
      obtain ⟨A, c, f, hv, hp⟩ := id d11
      simp only [List.length_cons, List.length_nil, Nat.zero_add, Nat.reduceAdd] at hv
      rw [hv] at d11
      go_simp
      go_at_call 70
      refine (hnode_any _ _ _ _ (by decide) d11).mono ?_
      rintro e w2 ⟨v, rfl, _, hp, hb2⟩
      exact hK.out _ _ _ hb2 hp (by simp only [hv, Act.put, List.setIfInBounds_toArray, List.set_cons_succ, List.set_cons_zero])
    refine StepsOk.cons (fun vals w' hb hd K hK => ?_) ?_
    · go_simp
      exact hK.out _ _ _ (bal (Below.refl _ _) _) ⟨_, rfl, hb.size, Blk.new _ _ _⟩ (by kernel_rfl)
    exact StepsOk.nil
  · intro vals w4 hb4 hd
    have d12 := hd 12 (by decide)
    have d13 := hd 13 (by decide)
    simp only [List.getD_cons_zero, List.getD_cons_succ] at d12 d13
    obtain ⟨A, c, B, d, hv, k, hp⟩ := TrP.cells d12
    obtain ⟨g5, hv5, hg5, hG⟩ := d13
    have hnm : (hrootT ⟨rb, rs, lb, ls, n0, n1, n⟩).nm = ⟨#[]⟩ := rfl
    have hn1' : (hrootT ⟨rb, rs, lb, ls, n0, n1, n⟩).ps.length = 3 := rfl
    have hn2' : (hrootT ⟨rb, rs, lb, ls, n0, n1, n⟩).ks.length = 0 := rfl
    rw [hnm, hn1', hn2'] at hv hp
    have hc5 := hG.cell
    have hf5 := hG.frozen
    have hp5 := TrX.leaf hG hp rfl
    obtain ⟨z1, z2, z3⟩ := named_tree (B := w.heap.size) (by omega) hG (.inr rfl) hp5 (hbw.trans (hb4.mono hbw.size))
    have hS5 := (((hS.kept hb4).far (p := ⟨g5, 0, none⟩) (by simp; omega) (.string ⟨#[]⟩)).far (p := ⟨g5, 1, none⟩) (by simp; omega) (.slice A 3 c)).far (p := ⟨g5, 2, none⟩) (by simp; omega) (.slice B 0 d)
    have hR5 := (((hR.kept hb4).far (p := ⟨g5, 0, none⟩) (by simp; omega) (.string ⟨#[]⟩)).far (p := ⟨g5, 1, none⟩) (by simp; omega) (.slice A 3 c)).far (p := ⟨g5, 2, none⟩) (by simp; omega) (.slice B 0 d)
    simp only [List.drop_succ_cons, List.drop_zero, fillA, fillL, List.setIfInBounds_toArray, List.set_cons_succ, List.set_cons_zero, Nat.zero_add, Nat.reduceAdd]
    simp only [hv5]
    generalize vals 0 = u0 at *
    generalize vals 1 = u1 at *
    generalize vals 2 = u2 at *
    generalize vals 3 = u3 at *
    generalize vals 4 = u4 at *
    generalize vals 5 = u5 at *
    generalize vals 6 = u6 at *
    generalize vals 7 = u7 at *
    generalize vals 8 = u8 at *
    generalize vals 9 = u9 at *
    generalize vals 10 = u10 at *
    generalize vals 11 = u11 at *
    clear hd d12 hp hp5 hS hR hv5 hu0 hu1
    have HZ1 := Lib.hid z1
    have HZ2 := Lib.hid z2
    have HZ3 := Lib.hid z3
    have HS5 := Lib.hid hS5
    have HR5 := Lib.hid hR5
    clear z1 z2 z3 hS5 hR5
    go_upto_region 7 with (go_at_call 70; refine (hnode_any _ [] _ _ (by decide) (X := fun b => b = w.heap.size + 1 ∨ b = g5) (PsP.nil 0 none (by simp [maxLen]))).mono ?_; rintro e w5 ⟨v5, rfl, rfl, hp6, hb5⟩; have hS6 := HS5.out.kept hb5; have hc6 := (hS6.alloc (.cells #[.string ⟨#[99, 112, 117, 115]⟩, .slice none 0 0, .slice none 0 0] 25)).cell)
    clear hc6 hc5 hf5
    have hA := Blk.new w5 25 #[.string ⟨#[99, 112, 117, 115]⟩, .slice none 0 0, .slice none 0 0]
    have hroot := (HZ2.out.kept hb5)
    have hG6 := (HZ1.out.kept hb5)
    have hR6 := (HR5.out.kept hb5)
    have hb6 := HZ3.out.trans (hb5.mono HZ3.out.size)
    have hg5l := hG6.lt
    have hz5 : w1.heap.size ≤ w5.heap.size := by have := hb4.size; have := hb5.size; simp only [World.size_setCell] at this; omega
    clear HZ1 HZ2 HZ3 HS5 HR5 hb5 hG hp6 hb4
    obtain ⟨wl, hwl⟩ : ∃ wl, w5.alloc (.cells #[.string ⟨#[99, 112, 117, 115]⟩, .slice none 0 0, .slice none 0 0] 25) = wl := ⟨_, rfl⟩
    have hwz : wl.heap.size = w5.heap.size + 1 := by rw [← hwl]; simp
    have hb5l : RowKit.Below w5.heap.size w5 wl := by rw [← hwl]; exact (Below.refl _ _).alloc (Nat.le_refl _) _
    rw [hwl] at hA ⊢
    clear hwl
    generalize hg6 : w5.heap.size = g6 at *
    have hO0 : OwnTs wl (fun b => (b = w.heap.size + 1 ∨ b = g5) ∨ b = g6) (g6 + 1) [] (.slice none 0 0) := OwnTs.nil _ _ _
    go_loopw [7, 31] (fun iv kv wr => ∃ j : Nat, j ≤ n ∧ kv = .int .u32 j ∧ ∃ A c, Blk wr g6 25 #[.string ⟨#[99, 112, 117, 115]⟩, .slice none 0 0, .slice A j c] ∧ OwnTs wr (fun b => (b = w.heap.size + 1 ∨ b = g5) ∨ b = g6) (g6 + 1) ((List.range j).map cpuT) (.slice A j c) ∧ Below g6 w5 wr) (fun _ kv _ => n - (intOf kv).toNat)
    case atStart => exact ⟨0, by omega, rfl, none, 0, hA, hO0, hb5l⟩
    case round =>
      obtain ⟨j, hj, rfl, A', c', hA', hO, hbr⟩ := hrel
      clear hA hO0 hb5l
      have hX6 : ∀ b, ((b = w.heap.size + 1 ∨ b = g5) ∨ b = g6) → b < g6 + 1 := fun b h => by omega
      have huj : IntKind.u64.wrap j = j := by show (j : Int) % 18446744073709551616 = j; omega
      by_cases hlt : j < n
      · go_wp2_with fail
        have hz9 : g6 + 1 ≤ wr.heap.size := by have := hA'.lt; omega
        refine wp_region_spec 11 [34, 35, 36, 37, 38, 39, 40, 41, 42, 43, 44]
          [.eq (.pointer (some ⟨g6, 2, none⟩)), .eq (.slice A' j c'), .eq (.int .u32 j), .eq (.int .u64 j), .eq (.string (strOfNums (atN [99, 112, 117] j))), .eq (.int .u32 j), RowV 44 encU32 1 [(j : Int)], PrV (⟨#[114, 101, 103]⟩, [(j : Int)].flatMap (bytesN 4 false)),
            PsV (fun b => ((b = w.heap.size + 1 ∨ b = g5) ∨ b = g6) ∨ (Value.slice A' j c').ownBlock = some b) [(⟨#[114, 101, 103]⟩, [(j : Int)].flatMap (bytesN 4 false))], TrV (fun b => ((b = w.heap.size + 1 ∨ b = g5) ∨ b = g6) ∨ (Value.slice A' j c').ownBlock = some b) (cpuT j),
            TsV (fun b => ((b = w.heap.size + 1 ∨ b = g5) ∨ b = g6) ∨ (Value.slice A' j c').ownBlock = some b) [cpuT j]] (by kernel_rfl) (by kernel_rfl) ?_ ?_
        · unfold StepS
          simp only [List.take_succ_cons, List.take_zero, fillA, fillL, List.setIfInBounds_toArray, List.set_cons_succ, List.set_cons_zero, Nat.zero_add, Nat.reduceAdd]
          refine StepsOk.cons (fun vals w' hb hd K hK => ?_) ?_
          · go_simp
            exact hK.out _ _ _ (Below.refl _ _) rfl (by kernel_rfl)
          refine StepsOk.cons (fun vals w' hb hd K hK => ?_) ?_
          · have d0 := hd 0 (by decide)
            simp only [List.getD_cons_zero, List.getD_cons_succ, SP.eq] at d0
            have cA := (hA'.kept hb).cell
            go_simp
            exact hK.out _ _ _ (Below.refl _ _) rfl (by simp only [d0, Act.put, List.setIfInBounds_toArray, List.set_cons_succ, List.set_cons_zero])
          refine StepsOk.cons (fun vals w' hb hd K hK => ?_) ?_
          · go_simp
            exact hK.out _ _ _ (Below.refl _ _) rfl (by kernel_rfl)
          refine StepsOk.cons (fun vals w' hb hd K hK => ?_) ?_
          · have d2 := hd 2 (by decide)
            simp only [List.getD_cons_zero, List.getD_cons_succ, SP.eq] at d2
            go_simp
            exact hK.out _ _ _ (Below.refl _ _) rfl (by simp only [d2, Act.put, List.setIfInBounds_toArray, List.set_cons_succ, List.set_cons_zero])
          refine StepsOk.cons (fun vals w' hb hd K hK => ?_) ?_
          · have d3 := hd 3 (by decide)
            simp only [List.getD_cons_zero, List.getD_cons_succ, SP.eq] at d3
            have e0 : (⟨#[99, 112, 117]⟩ : ByteArray) = strOfNums [99, 112, 117] := by decide +kernel
            go_simp
            go_at_call 73
            refine (hat_any _ j _ (by decide) (by omega)).mono ?_
            rintro e w2 ⟨rfl, hb2⟩
            exact hK.out _ _ _ hb2 rfl (by simp only [d3, Act.put, List.setIfInBounds_toArray, List.set_cons_succ, List.set_cons_zero])
          refine StepsOk.cons (fun vals w' hb hd K hK => ?_) ?_
          · go_simp
            exact hK.out _ _ _ (Below.refl _ _) rfl (by kernel_rfl)
          refine StepsOk.cons (fun vals w' hb hd K hK => ?_) ?_
          · have d5 := hd 5 (by decide)
            simp only [List.getD_cons_zero, List.getD_cons_succ, SP.eq] at d5
            go_simp
            exact hK.out _ _ _ (bal (Below.refl _ _) _) (RowP.fresh _ [(j : Int)] _ 1 _ rfl rfl rfl rfl (by decide)) (by simp only [d5, Act.put, List.setIfInBounds_toArray, List.set_cons_succ, List.set_cons_zero])
          refine StepsOk.cons (fun vals w' hb hd K hK => ?_) ?_
          · have d6 := hd 6 (by decide)
            simp only [List.getD_cons_zero, List.getD_cons_succ, SP.eq] at d6
            obtain ⟨A, c, hv, h1, h2, h3, _⟩ := d6
            simp only [List.length_cons, List.length_nil, Nat.zero_add, Nat.reduceAdd] at hv h3
            go_simp
            go_at_call 72
            refine (hfour_any _ A 1 c [(j : Int)] _ (by decide) rfl (by decide) (by intro x hx; simp at hx; subst hx; omega) h3).mono ?_
            rintro e w2 ⟨v, rfl, hp, hb2⟩
            exact hK.out _ _ _ hb2 hp (by simp only [hv, Act.put, List.setIfInBounds_toArray, List.set_cons_succ, List.set_cons_zero])
          refine StepsOk.cons (fun vals w' hb hd K hK => ?_) ?_
          · have d7 := hd 7 (by decide)
            simp only [List.getD_cons_zero, List.getD_cons_succ, SP.eq] at d7
            obtain ⟨A, c, hv, hp⟩ := d7.cells
            generalize hm : (([(j : Int)].flatMap (bytesN 4 false)) : List Int).length = m at hv hp
            go_simp
            exact hK.out _ _ _ (bal (Below.refl _ _) _) (PsP.fresh _ [(⟨#[114, 101, 103]⟩, [(j : Int)].flatMap (bytesN 4 false))] [_] _ _ 1 ⟨hp, trivial⟩ rfl rfl rfl (by decide) (fun b h => by
              have := hb.size
              rcases h with h | h
              · have := hX6 b h
                omega
              · have := (hO.lt h).2
                omega)) (by simp only [hv, Act.put, List.setIfInBounds_toArray, List.set_cons_succ, List.set_cons_zero])
          refine StepsOk.cons (fun vals w' hb hd K hK => ?_) ?_
          · have d4 := hd 4 (by decide)
            simp only [List.getD_cons_zero, List.getD_cons_succ, SP.eq] at d4
            have d8 := hd 8 (by decide)
            simp only [List.getD_cons_zero, List.getD_cons_succ, SP.eq] at d8
            obtain ⟨A, c, f, hv, hp⟩ := id d8
            simp only [List.length_cons, List.length_nil, Nat.zero_add, Nat.reduceAdd] at hv
            rw [hv] at d8
            go_simp
            go_at_call 70
            refine (hnode_any _ _ _ _ (by rw [strOfNums_size]; have := atN_len [99, 112, 117] j; unfold maxLen; simp at this; omega) d8).mono ?_
            rintro e w2 ⟨v, rfl, _, hp, hb2⟩
            exact hK.out _ _ _ hb2 hp (by simp only [d4, hv, Act.put, List.setIfInBounds_toArray, List.set_cons_succ, List.set_cons_zero])
          refine StepsOk.cons (fun vals w' hb hd K hK => ?_) ?_
          · have d9 := hd 9 (by decide)
            simp only [List.getD_cons_zero, List.getD_cons_succ, SP.eq] at d9
            obtain ⟨A, c, B, d, hv, k, hp⟩ := d9.cells
            generalize (cpuT j).nm = nm at hv hp
            generalize (cpuT j).ps.length = m1 at hv hp
            generalize (cpuT j).ks.length = m2 at hv hp
            go_simp
            exact hK.out _ _ _ (bal (Below.refl _ _) _) (TsP.fresh _ [cpuT j] [_] _ _ 1 ⟨⟨k, hp⟩, trivial⟩ rfl rfl rfl (by decide) (fun b h => by
              have := hb.size
              rcases h with h | h
              · have := hX6 b h
                omega
              · have := (hO.lt h).2
                omega)) (by simp only [hv, Act.put, List.setIfInBounds_toArray, List.set_cons_succ, List.set_cons_zero])
          exact StepsOk.nil
        · intro vals w8 hb8 hd
          have d1 := hd 1 (by decide)
          have d10 := hd 10 (by decide)
          simp only [List.getD_cons_zero, List.getD_cons_succ, SP.eq] at d1 d10
          have hA8 := hA'.kept hb8
          obtain ⟨v', w9, A9, c9, hrun, hO9, hb9, hg9, rfl⟩ := OwnTs.app 23 (hO.kept hb8) (Nat.le_trans hz9 hb8.size) hX6 d10 (by simp; omega)
          obtain ⟨A1, c1, f1, k1, hv10, _⟩ := id d10
          simp only [List.length_cons, List.length_nil, Nat.zero_add, Nat.reduceAdd] at hv10
          rw [hv10] at hrun
          have hA9 := hA8.grown hg9 (fun e => by
            have := (hO.lt e.symm).1
            omega)
          have cA9 := hA9.cell
          have fA9 := hA9.frozen
          have HR := Lib.hid hrun
          simp only [List.length_append, List.length_map, List.length_range, List.length_cons, List.length_nil, Nat.zero_add] at HR
          simp only [List.drop_succ_cons, List.drop_zero, fillA, fillL, List.setIfInBounds_toArray, List.set_cons_succ, List.set_cons_zero, Nat.zero_add, Nat.reduceAdd, d1, hv10]
          clear hrun hd d10
          go_wp2_with (at_builtin; refine wpList_appr rfl (.tmp 35) (.tmp 44) rfl rfl rfl HR.out ?_)
          have e1 : (List.map cpuT (List.range j) ++ [cpuT j]).length = j + 1 := by simp
          rw [e1] at hO9
          refine ⟨⟨j + 1, by omega, by go_num, A9, c9, hA9.set_ 2 _, ?_, ?_⟩, by simp [intOf]; omega⟩
          · rw [List.range_succ, List.map_append]
            exact OwnTs.turn hO9 (Same.set_in hA9 (by decide) (.inr rfl) 2 _) (fun g hg => Below.heap_setCell _ _ _ _ (by
              have := (hO9.lt hg).1
              simp
              omega))
          · exact ((hbr.trans (hb8.mono (by omega))).trans (hb9.mono (Nat.le_succ _))).setCell (p := ⟨g6, 2, none⟩) (Nat.le_refl _) _
      · obtain rfl : j = n := by omega
        have hS := hS6.below hbr (by omega)
        have hG := hG6.below hbr (by omega)
        have hR := hR6.below hbr (by omega)
        have hrt := TrX.kept hroot (by rw [hg6]; exact hbr)
        have hbw := hb6.trans (hbr.mono (by omega))
        go_wp2_with fail
        clear hS6 hG6 hR6 hroot hb6
        have e1 : (⟨#[109, 101, 109, 111, 114, 121]⟩ : ByteArray) = strOfNums [109, 101, 109, 111, 114, 121] := by decide +kernel
        have e2 : (⟨#[108, 111, 97, 100, 101, 114]⟩ : ByteArray) = strOfNums [108, 111, 97, 100, 101, 114] := by decide +kernel
        have hX11 : ∀ (w' : World), Below wr.heap.size wr w' → ∀ b, (b = w.heap.size + 1 ∨ b = g5) → b < w'.heap.size := fun w' hb b h => by
          have := hb.size
          have := hA'.lt
          omega
        refine wp_region_spec 8 [48, 49, 50, 51, 52, 53, 54, 55]
          [TrV (fun b => b = w.heap.size + 1 ∨ b = g5) (cpusT j), .eq (.pointer (some ⟨w.heap.size, 0, none⟩)), .eq (.agg #[.int .u64 rb, .int .u64 rs]), TrV (fun b => b = w.heap.size + 1 ∨ b = g5) (stretchT [109, 101, 109, 111, 114, 121] rb rs),
            .eq (.pointer (some ⟨w.heap.size, 2, none⟩)), .eq (.agg #[.int .u64 lb, .int .u64 ls]), TrV (fun b => b = w.heap.size + 1 ∨ b = g5) (stretchT [108, 111, 97, 100, 101, 114] lb ls),
            TsV (fun b => b = w.heap.size + 1 ∨ b = g5) [cpusT j, stretchT [109, 101, 109, 111, 114, 121] rb rs, stretchT [108, 111, 97, 100, 101, 114] lb ls]] (by kernel_rfl) (by kernel_rfl) ?_ ?_
        · unfold StepS
          simp only [List.take_succ_cons, List.take_zero, fillA, fillL, List.setIfInBounds_toArray, List.set_cons_succ, List.set_cons_zero, Nat.zero_add, Nat.reduceAdd]
          refine StepsOk.cons (fun vals w' hb hd K hK => ?_) ?_
          · have cA := (hA'.kept hb).cell
            go_simp
            have hts := TsP.less ((hO.kept hb).ts hX6) (Y := fun b => b = w.heap.size + 1 ∨ b = g5) (fun b h => .inl h)
            exact hK.out _ _ _ (Below.refl _ _) (TrP.mk (by decide) (PsP.nil 0 none (by simp [maxLen])) hts) (by kernel_rfl)
          refine StepsOk.cons (fun vals w' hb hd K hK => ?_) ?_
          · go_simp
            exact hK.out _ _ _ (Below.refl _ _) rfl (by kernel_rfl)
          refine StepsOk.cons (fun vals w' hb hd K hK => ?_) ?_
          · have d1 := hd 1 (by decide)
            simp only [List.getD_cons_zero, List.getD_cons_succ, SP.eq] at d1
            have cS := (hS.kept hb).cell
            go_simp
            exact hK.out _ _ _ (Below.refl _ _) rfl (by simp only [d1, Act.put, List.setIfInBounds_toArray, List.set_cons_succ, List.set_cons_zero])
          refine StepsOk.cons (fun vals w' hb hd K hK => ?_) ?_
          · have d2 := hd 2 (by decide)
            simp only [List.getD_cons_zero, List.getD_cons_succ, SP.eq] at d2
            go_simp
            go_at_call 74
            refine (hstretch_any [109, 101, 109, 111, 114, 121] rb rs _ (by decide) h1 h2 (hX11 _ hb)).mono ?_
            rintro e w2 ⟨v, rfl, hp, hb2⟩
            exact hK.out _ _ _ hb2 hp (by simp only [d2, Act.put, List.setIfInBounds_toArray, List.set_cons_succ, List.set_cons_zero])
          refine StepsOk.cons (fun vals w' hb hd K hK => ?_) ?_
          · go_simp
            exact hK.out _ _ _ (Below.refl _ _) rfl (by kernel_rfl)
          refine StepsOk.cons (fun vals w' hb hd K hK => ?_) ?_
          · have d4 := hd 4 (by decide)
            simp only [List.getD_cons_zero, List.getD_cons_succ, SP.eq] at d4
            have cS := (hS.kept hb).cell
            go_simp
            exact hK.out _ _ _ (Below.refl _ _) rfl (by simp only [d4, Act.put, List.setIfInBounds_toArray, List.set_cons_succ, List.set_cons_zero])
          refine StepsOk.cons (fun vals w' hb hd K hK => ?_) ?_
          · have d5 := hd 5 (by decide)
            simp only [List.getD_cons_zero, List.getD_cons_succ, SP.eq] at d5
            go_simp
            go_at_call 74
            refine (hstretch_any [108, 111, 97, 100, 101, 114] lb ls _ (by decide) h3 h4 (hX11 _ hb)).mono ?_
            rintro e w2 ⟨v, rfl, hp, hb2⟩
            exact hK.out _ _ _ hb2 hp (by simp only [d5, Act.put, List.setIfInBounds_toArray, List.set_cons_succ, List.set_cons_zero])
          refine StepsOk.cons (fun vals w' hb hd K hK => ?_) ?_
          · have d0 := hd 0 (by decide)
            simp only [List.getD_cons_zero, List.getD_cons_succ, SP.eq] at d0
            have d3 := hd 3 (by decide)
            simp only [List.getD_cons_zero, List.getD_cons_succ, SP.eq] at d3
            have d6 := hd 6 (by decide)
            simp only [List.getD_cons_zero, List.getD_cons_succ, SP.eq] at d6
            obtain ⟨A0, p0, B0, q0, hv0, k0, hp0⟩ := d0.cells
            obtain ⟨A1, p1, B1, q1, hv1, k1, hp1⟩ := d3.cells
            obtain ⟨A2, p2, B2, q2, hv2, k2, hp2⟩ := d6.cells
            generalize (cpusT j).nm = m0 at hv0 hp0
            generalize (cpusT j).ps.length = m1 at hv0 hp0
            generalize (cpusT j).ks.length = m2 at hv0 hp0
            generalize (stretchT [109, 101, 109, 111, 114, 121] rb rs).nm = m3 at hv1 hp1
            generalize (stretchT [109, 101, 109, 111, 114, 121] rb rs).ps.length = m4 at hv1 hp1
            generalize (stretchT [109, 101, 109, 111, 114, 121] rb rs).ks.length = m5 at hv1 hp1
            generalize (stretchT [108, 111, 97, 100, 101, 114] lb ls).nm = m6 at hv2 hp2
            generalize (stretchT [108, 111, 97, 100, 101, 114] lb ls).ps.length = m7 at hv2 hp2
            generalize (stretchT [108, 111, 97, 100, 101, 114] lb ls).ks.length = m8 at hv2 hp2
            go_simp
            exact hK.out _ _ _ (bal (Below.refl _ _) _) (TsP.fresh _ [cpusT j, stretchT [109, 101, 109, 111, 114, 121] rb rs, stretchT [108, 111, 97, 100, 101, 114] lb ls] [_, _, _] _ _ 3 ⟨⟨k0, hp0⟩, ⟨k1, hp1⟩, ⟨k2, hp2⟩, trivial⟩ rfl rfl rfl (by decide) (hX11 _ hb)) (by simp only [hv0, hv1, hv2, Act.put, List.setIfInBounds_toArray, List.set_cons_succ, List.set_cons_zero])
          exact StepsOk.nil
        · intro vals w8 hb8 hd
          have d7 := hd 7 (by decide)
          simp only [List.getD_cons_zero, List.getD_cons_succ, SP.eq] at d7
          obtain ⟨A7, c7, f7, k7, hv7, _⟩ := id d7
          simp only [List.length_cons, List.length_nil, Nat.zero_add, Nat.reduceAdd] at hv7
          rw [hv7] at d7
          have hG8 := hG.kept hb8
          have hR8 := hR.kept hb8
          have cG8 := hG8.cell
          have fG8 := hG8.frozen
          simp only [List.drop_succ_cons, List.drop_zero, fillA, fillL, List.setIfInBounds_toArray, List.set_cons_succ, List.set_cons_zero, Nat.zero_add, Nat.reduceAdd, hv7]
          clear hd
          have hsm := Same.set_in (X := fun b => b = w.heap.size + 1 ∨ b = g5) hG8 (by decide) (.inr rfl) 2 (.slice A7 3 c7)
          have hps := (TrX.kept hrt hb8).parts.2.2.1
          have ht9 := TrP.mk (nm := ⟨#[]⟩) (by decide) (hps.turn hsm) (d7.turn hsm)
          have hG9 := hG8.set_ 2 (.slice A7 3 c7)
          have hR9 := hR8.far (p := ⟨g5, 2, none⟩) (by simp; omega) (.slice A7 3 c7)
          have hbz := (hbw.trans (hb8.mono (by have := hbw.size; omega))).setCell (p := ⟨g5, 2, none⟩) (by simp; omega) (.slice A7 3 c7)
          obtain ⟨cs9, k9, hcs9, ht9⟩ := ht9
          have hcs9 : cs9 = [.string ⟨#[]⟩, .slice A 3 c, .slice A7 3 c7] := by
            have := congrArg (fun v => match v with | Value.agg a => a.toList | _ => []) hcs9
            simpa using this.symm
          rw [hcs9] at ht9
          obtain ⟨z1, z2, z3⟩ := named_tree (B := w.heap.size) (by omega) hR9 (.inl rfl) ht9 hbz
          have cG9 := hG9.cell
          have cR9 := hR9.cell
          have fR9 := hR9.frozen
          have HZ := Lib.hid z1.cell
          clear z1 hcs9
          go_wp2_with fail
          have cZ := HZ.out
          exact bodyPost_ret (v := .tuple #[.agg #[.string ⟨#[]⟩, .slice A 3 c, .slice A7 3 c7], .int .i64 0]) (by simp [results, Try.results29, go_sem, cZ]) rfl ⟨_, rfl, ⟨_, k9, rfl, z2.less (fun _ h => h.elim)⟩, z3⟩
set_option maxRecDepth 100000 in
set_option maxHeartbeats 1000000 in
theorem htree_no (x : Bd) (hx : BdOk x) (hfit : fitB x = false) (w : World) : Calls Try.prog 29 #[.agg (encBd x).toArray] w fun e w' => e = .returned (.tuple #[.agg #[.string ⟨#[]⟩, .slice none 0 0, .slice none 0 0], .int .i64 282]) ∧ Below w.heap.size w w' := by
  have HF := Lib.hid (fun w => fit_any x hx w)
  rw [hfit] at HF
  obtain ⟨rb, rs, lb, ls, n0, n1, n2⟩ := x
  clear hfit
  have HB := Lib.hid (bal (bal (Below.refl w.heap.size w) (.cells #[.int .u64 rb, .int .u64 rs, .int .u64 lb, .int .u64 ls, .int .i64 n0, .int .i64 n1, .int .i64 n2] 39)) (.cells #[.string ⟨#[]⟩, .slice none 0 0, .slice none 0 0] 25))
  have HR := Lib.hid (Blk.fresh (w.alloc (.cells #[.int .u64 rb, .int .u64 rs, .int .u64 lb, .int .u64 ls, .int .i64 n0, .int .i64 n1, .int .i64 n2] 39)) 25 #[.string ⟨#[]⟩, .slice none 0 0, .slice none 0 0] (g := w.heap.size + 1))
  rw [show (encBd ⟨rb, rs, lb, ls, n0, n1, n2⟩).toArray = #[.int .u64 rb, .int .u64 rs, .int .u64 lb, .int .u64 ls, .int .i64 n0, .int .i64 n1, .int .i64 n2] from rfl] at HF ⊢
  go_enter Try.func29, Try.ntmps29
  go_wp2_with (go_at_call 69; refine (HF.out _).mono ?_; rintro e w1 ⟨rfl, hb1⟩; have hR := HR.out.kept hb1; have hc1 := hR.cell; have hf1 := hR.frozen; have hbw := HB.out.trans (hb1.mono HB.out.size); clear hb1)
  have cZ := (((hR.set_ 0 (.string ⟨#[]⟩)).set_ 1 (.slice none 0 0)).set_ 2 (.slice none 0 0)).cell
  exact bodyPost_ret (v := .tuple #[.agg #[.string ⟨#[]⟩, .slice none 0 0, .slice none 0 0], .int .i64 282]) (by simp [results, Try.results29, go_sem, cZ]) rfl ⟨rfl, ((hbw.setCell (p := ⟨w.heap.size + 1, 0, none⟩) (by simp) _).setCell (p := ⟨w.heap.size + 1, 1, none⟩) (by simp) _).setCell (p := ⟨w.heap.size + 1, 2, none⟩) (by simp) _⟩
end Go.Proofs.Ytnkpaockginooaa
