/- Chapter 25: registers folded on: walked. -/
import Derived.Test.YtjcklmhkdpbbdaaDoorShaO
import Derived.Test.YtjcklmhkdpbbdaaDoorMeasJ
import Derived.Test.YtjcklmhkdpbbdaaDoorRegH
namespace Go.Proofs.YtjcklmhkdpbbdaaDoor
set_option linter.unusedVariables false
set_option linter.unusedSimpArgs false
open Go.RowKit Go.Sort

theorem exec_load_mid {P : Program} {o : Oper} {ev : Operand → Value} {w : World} (ty : TypeId) (x : Operand) (ho : o.op = .load ty x) (b off : Nat) (hx : ev x = .pointer (some ⟨b, off, none⟩)) (cs : List Value) (d : TypeDesc) (hc : w.rangeAt b off cs)
    (hu : P.underlying ty = some d) (hd : d.isRow = true) (hi : (P.info? ty).map (·.size) = some cs.length) : (execOp ev o).run P w = .ok (.value (.agg cs.toArray)) w := by
  unfold execOp
  simp only [ho, hx, Instr.loadAt, Instr.sureAddr, Sem.run_bind, Sem.run_pure, Result.andThen_ok, run_loadVar_mid w b off ty cs d hc hu hd hi]
theorem near_cells {S : Nat → Prop} {a : World} {g : Nat} (hg : S g) : ∀ (vs : List Value) (o : Nat) (w : World), Near S a w → Near S a (w.setCells g o vs)
  | [], _, _, h => h
  | v :: r, o, w, h => near_cells hg r (o + 1) _ (h.setCell (p := ⟨g, o, none⟩) hg v)
/-- Which of two registers a record is folded into. -/
def Rc.reg (r : Rc) : Nat := if r.kind = 1 then 0 else 1
theorem Rc.reg_le (r : Rc) : r.reg ≤ 1 := by unfold Rc.reg; split <;> omega
def regAt (g : List Int) (k : Nat) : List Int := (g.drop (32 * k)).take 32
def extR (g : List Int) (r : Rc) : List Int := splice g (32 * r.reg) (sumB (regAt g r.reg ++ r.bytes))
def onR (g : List Int) (l : List Rc) : List Int := l.foldl extR g
theorem onR_snoc (g : List Int) (l : List Rc) (r : Rc) : onR g (l ++ [r]) = extR (onR g l) r := by simp [onR]
theorem onR_app (g : List Int) (l m : List Rc) : onR g (l ++ m) = onR (onR g l) m := by simp [onR]
structure RegOk (g : List Int) : Prop where
  len : g.length = 64
  ok : BytesOk g
theorem sumB_len (l : List Int) : (sumB l).length = 32 := outB_len _
theorem sumB_ok (l : List Int) : BytesOk (sumB l) := outB_ok _
theorem RegOk.ext {g : List Int} (h : RegOk g) (r : Rc) : RegOk (extR g r) := by
  have := r.reg_le
  exact ⟨by rw [extR, length_splice _ _ _ (by rw [sumB_len, h.len]; omega)]; exact h.len, splice_ok h.ok (sumB_ok _)⟩
theorem RegOk.on {g : List Int} (h : RegOk g) (l : List Rc) : RegOk (onR g l) := by
  induction l generalizing g with
  | nil => exact h
  | cons r l ih => exact ih (h.ext r)
theorem RegOk.at_len {g : List Int} (h : RegOk g) {k : Nat} (hk : k ≤ 1) : (regAt g k).length = 32 := by unfold regAt; simp [h.len]; omega
theorem RegOk.at_ok {g : List Int} (h : RegOk g) (k : Nat) : BytesOk (regAt g k) := fun x hx => h.ok x (List.mem_of_mem_drop (List.mem_of_mem_take hx))
theorem Rc.bytes_ok {r : Rc} (h : RcOk r) : BytesOk r.bytes := by
  intro x hx
  unfold Rc.bytes at hx
  rcases List.mem_append.1 hx with hx | hx
  · obtain ⟨y, _, hy⟩ := List.mem_flatMap.1 hx; exact bytesN_ok _ _ _ x hy
  · exact h.ok x hx
/-- A register, as a slice. -/
theorem regRd {w : World} {g : Nat} {t : TypeId} {rg : List Int} {tl : List Value} (hB : Blk w g t (rg.flatMap encB ++ tl).toArray) (h : RegOk rg) {k : Nat} (hk : k ≤ 1) : Rd w w.heap.size 1 (some ⟨g, k * 32, none⟩) 32 ((regAt rg k).flatMap encB) := by
  refine ⟨by rw [flatB_len, h.at_len hk], fun _ => ⟨g, k * 32, rfl, hB.lt, fun j u hu => ?_⟩⟩
  rw [hB.cell (k * 32 + j), List.getElem?_toArray]
  have hj := (List.getElem?_eq_some_iff.1 hu).1
  rw [flatB_len, h.at_len hk] at hj
  rw [List.getElem?_append_left (by rw [flatB_len, h.len]; omega), flatB_get]
  rw [flatB_get] at hu
  unfold regAt at hu
  rw [List.getElem?_take_of_lt hj, List.getElem?_drop, Nat.mul_comm] at hu
  exact hu
theorem regSet {rg : List Int} {tl : List Value} (h : RegOk rg) {k : Nat} (hk : k ≤ 1) {s : List Int} (hs : s.length = 32) : setAt (rg.flatMap encB ++ tl).toArray (k * 32) (s.flatMap encB) = ((splice rg (32 * k) s).flatMap encB ++ tl).toArray := by
  have e : rg.flatMap encB ++ tl = (rg.take (32 * k)).flatMap encB ++ (((rg.drop (32 * k)).take 32).flatMap encB ++ ((rg.drop (32 * k + 32)).flatMap encB ++ tl)) := by
    rw [← List.append_assoc, ← List.append_assoc, ← List.flatMap_append, ← List.flatMap_append]
    congr 2
    rw [← List.drop_drop, List.append_assoc, List.take_append_drop, List.take_append_drop]
  have hl : ((rg.take (32 * k)).flatMap encB).length = k * 32 := by rw [flatB_len, List.length_take, h.len]; omega
  have := setAt_parts (s.flatMap encB) (((rg.drop (32 * k)).take 32).flatMap encB) ((rg.take (32 * k)).flatMap encB) ((rg.drop (32 * k + 32)).flatMap encB ++ tl) (by rw [flatB_len, flatB_len, hs, h.at_len hk |> (show (regAt rg k).length = 32 from ·) |> (show ((rg.drop (32 * k)).take 32).length = 32 from ·)])
  rw [hl, ← e] at this
  rw [this]
  unfold splice
  rw [hs]
  simp
/-- What a log of so many records weighs. -/
theorem store_reg {W : World} {g : Nat} {t : TypeId} {cs : Array Value} (hB : Blk W g t cs) {o : Nat} {s : List Int} (hs : s.length = 32) (ho : o + 32 ≤ cs.size) :
    (storeCells ⟨g, o, none⟩ (s.flatMap encB) 0).run Tryd.prog W = .ok () (W.setCells g o (s.flatMap encB)) := by
  have := run_storeCells_cells (P := Tryd.prog) g o (s.flatMap encB) 0 W (fun j hj => by
      rw [flatB_len, hs] at hj
      simpa using (hB.there ho j hj).1) (fun j hj => by
      rw [flatB_len, hs] at hj
      simpa using (hB.there ho j hj).2) (one_b s)
  simpa using this

set_option maxRecDepth 100000 in
set_option maxHeartbeats 400000 in
theorem extend_any (g : Nat) (t : TypeId) (tl : List Value) (rg : List Int) (r : Rc) (w : World) (hr : RcOk r) (h : RegOk rg) (hB : Blk w g t (rg.flatMap encB ++ tl).toArray) (hT : Tabs w) :
    Calls Tryd.prog 61 #[.pointer (some ⟨g, 0, none⟩), .agg r.cs.toArray] w fun e w' => e = .returned (.tuple #[]) ∧ Blk w' g t ((extR rg r).flatMap encB ++ tl).toArray ∧ Near (fun i => i = g) w w' := by
  have hsz : r.cs.toArray.size = 35 := by simp [Rc.len hr]
  have hfl : r.cs.length = 35 := Rc.len hr
  have HB0 := Lib.hid (Blk.new w 61 r.cs.toArray)
  have HbX := Lib.hid (bal (Below.refl w.heap.size w) (.cells r.cs.toArray 61))
  have HBg := Lib.hid (hB.alloc (.cells r.cs.toArray 61))
  obtain ⟨c0, c1, c2⟩ := three HB0.out
  have hgl := hB.lt
  have HM := Lib.hid (fun W => measPut_any r hr W)
  have HT := Lib.hid hT
  have HLn := Lib.hid (Rc.len hr)
  have HOk := Lib.hid hr
  have HRg := Lib.hid h
  have key : ∀ k, k ≤ 1 → r.reg = k → Hid (∀ W A c, Below w.heap.size w W → Tabs W → Blk W g t (rg.flatMap encB ++ tl).toArray → W.ownsRow (w.heap.size) 5 1 (.slice A 44 c) 44 (r.bytes.flatMap encB) →
      Calls Tryd.prog 16 #[.slice (some ⟨W.heap.size, 0, none⟩) 2 2] (W.alloc (.cells #[.slice (some ⟨g, k * 32, none⟩) 32 32, .slice A 44 c] 29)) fun e w' => e = .returned (.agg ((sumB (regAt rg r.reg ++ r.bytes)).flatMap encB).toArray) ∧ Below W.heap.size W w') := fun k hk he => Lib.hid fun W A c hb hT hB ho => by
    have hbW := bal (Below.refl W.heap.size W) (.cells #[.slice (some ⟨g, k * 32, none⟩) 32 32, .slice A 44 c] 29)
    have r1 := (regRd hB h hk).below hbW
    have r2 := (Rd.of_own ho).below hbW
    refine (shaSum_any (some ⟨W.heap.size, 0, none⟩) 2 2 [⟨some ⟨g, k * 32, none⟩, 32, 32, regAt rg k⟩, ⟨A, 44, c, r.bytes⟩] _ rfl (by decide) (Rd.fresh _ _ _ 2 1 _ rfl)
      (fun x hx => by simp only [List.mem_cons, List.not_mem_nil, or_false] at hx; rcases hx with rfl | rfl <;> first | exact ⟨h.at_len hk, r1.more (by simp)⟩ | exact ⟨Rc.bytes_len hr, r2.more (by simp)⟩)
      (fun x hx => by simp only [List.mem_cons, List.not_mem_nil, or_false] at hx; rcases hx with rfl | rfl <;> first | exact ⟨h.at_ok k, Nat.le_refl _⟩ | exact ⟨Rc.bytes_ok hr, own_cap ho⟩)
      (by simp [catN, h.at_len hk, Rc.bytes_len hr]) (hT.kept hbW)).mono ?_
    rintro e w' ⟨rfl, hb'⟩
    refine ⟨?_, hbW.trans (hb'.mono hbW.size)⟩
    rw [he]; simp [catN]
  have HE := Lib.hid (show extR rg r = splice rg (32 * r.reg) (sumB (regAt rg r.reg ++ r.bytes)) from rfl)
  have HOl := Lib.hid (sumB_len (regAt rg r.reg ++ r.bytes))
  generalize sumB (regAt rg r.reg ++ r.bytes) = ob at *
  have hcz : (rg.flatMap encB ++ tl).toArray.size = 64 + tl.length := by rw [List.size_toArray, List.length_append, flatB_len, h.len]
  have HCz := Lib.hid hcz
  clear hB hT h hr hcz
  by_cases hk : r.kind = 1
  case' pos =>
    have HK := key 0 (by omega) (by simp [Rc.reg, hk])
    have HSet := Lib.hid (fun (s : List Int) hs => regSet (tl := tl) HRg.out (k := 0) (by omega) (s := s) hs)
    have HGo := Lib.hid (show r.reg = 0 by simp [Rc.reg, hk])
    have HZ := Lib.hid (show 0 * 32 = (0 : Nat) from rfl)
  case' neg =>
    have HK := key 1 (by omega) (by simp [Rc.reg, hk])
    have HSet := Lib.hid (fun (s : List Int) hs => regSet (tl := tl) HRg.out (k := 1) (by omega) (s := s) hs)
    have HGo := Lib.hid (show r.reg = 1 by simp [Rc.reg, hk])
    have HZ := Lib.hid (show 1 * 32 = (32 : Nat) from rfl)
  case pos =>
      rw [HZ.out] at HSet HK
      rw [HGo.out] at HE
      clear key HGo
      go_enter Tryd.func61, Tryd.ntmps61
      go_upto_region 4 with (fail)
      have HRb : Hid ((w.alloc (.cells r.cs.toArray 61)).rangeAt w.heap.size 0 r.cs) := Lib.hid fun j v hv => by
        rw [Nat.zero_add, HB0.out.cell j]; simpa using hv
      have hS1 : (fun w' : World => w'.rangeAt w.heap.size 0 r.cs) (w.alloc (.cells r.cs.toArray 61)).drew := HRb.out
      refine wp_region_held_drew (S := fun w' : World => w'.rangeAt w.heap.size 0 r.cs) (by kernel_rfl) hS1 (fun hHeld => ?_)
      refine wpAnyH_take (i := 0) (v := ?va0) rfl (by kernel_rfl) (by kernel_rfl) (by kernel_rfl) (fun _ _ _ h => h) (Or.inl ⟨by kernel_rfl, ?hya0⟩) hS1 ?resta0
      case hya0 =>
        intro w hSw
        clear hSw
        go_simp
        first | done | with_reducible rfl
      (try simp only [Act.put, List.setIfInBounds_toArray, List.set_cons_zero, List.set_cons_succ])
      refine wpAnyH_take (i := 1) (v := ?va1) rfl (by kernel_rfl) (by kernel_rfl) (by kernel_rfl) (fun _ _ _ h => h) (Or.inl ⟨by kernel_rfl, ?hya1⟩) hS1 ?resta1
      case hya1 =>
        intro w hSw
        clear hSw
        go_simp
        first | done | with_reducible rfl
      (try simp only [Act.put, List.setIfInBounds_toArray, List.set_cons_zero, List.set_cons_succ])
      refine wpAnyH_take (i := 2) (v := ?va2) rfl (by kernel_rfl) (by kernel_rfl) (by kernel_rfl) (fun _ _ _ h => h) (Or.inl ⟨by kernel_rfl, ?hya2⟩) hS1 ?resta2
      case hya2 =>
        intro w hSw
        clear hSw
        go_simp
        first | done | with_reducible rfl
      (try simp only [Act.put, List.setIfInBounds_toArray, List.set_cons_zero, List.set_cons_succ])
      refine wpAnyH_take (i := 3) (v := ?va3) rfl (by kernel_rfl) (by kernel_rfl) (by kernel_rfl) (fun _ _ _ h => h) (Or.inl ⟨by kernel_rfl, ?hya3⟩) hS1 ?resta3
      case hya3 =>
        intro w hSw
        clear hSw
        go_simp
        first | done | with_reducible rfl
      (try simp only [Act.put, List.setIfInBounds_toArray, List.set_cons_zero, List.set_cons_succ])
      refine wpAnyH_take (i := 4) (v := ?va4) rfl (by kernel_rfl) (by kernel_rfl) (by kernel_rfl) (fun _ _ _ h => h) (Or.inl ⟨by kernel_rfl, ?hya4⟩) hS1 ?resta4
      case hya4 =>
        intro w hSw
        clear hSw
        go_simp
        first | done | with_reducible rfl
      (try simp only [Act.put, List.setIfInBounds_toArray, List.set_cons_zero, List.set_cons_succ])
      refine wpAnyH_take (i := 5) (v := ?va5) rfl (by kernel_rfl) (by kernel_rfl) (by kernel_rfl) (fun _ _ _ h => h) (Or.inl ⟨by kernel_rfl, ?hya5⟩) hS1 ?resta5
      case hya5 =>
        intro w hSw
        clear hSw
        go_simp
        first | done | with_reducible rfl
      (try simp only [Act.put, List.setIfInBounds_toArray, List.set_cons_zero, List.set_cons_succ])
      refine wpAnyH_take (i := 6) (v := ?va6) rfl (by kernel_rfl) (by kernel_rfl) (by kernel_rfl) (fun _ _ _ h => h) (Or.inl ⟨by kernel_rfl, ?hya6⟩) hS1 ?resta6
      case hya6 =>
        intro w hSw
        clear hSw
        go_simp
        first | done | with_reducible rfl
      (try simp only [Act.put, List.setIfInBounds_toArray, List.set_cons_zero, List.set_cons_succ])
      refine wpAnyH_take (i := 7) (v := ?va7) rfl (by kernel_rfl) (by kernel_rfl) (by kernel_rfl) (fun _ _ _ h => h) (Or.inl ⟨by kernel_rfl, ?hya7⟩) hS1 ?resta7
      case hya7 =>
        intro w hSw
        clear hSw
        go_simp
        first | done | with_reducible rfl
      (try simp only [Act.put, List.setIfInBounds_toArray, List.set_cons_zero, List.set_cons_succ])
      refine wpAnyH_take (i := 8) (v := .agg r.cs.toArray) rfl (by kernel_rfl) (by kernel_rfl) (by kernel_rfl) (fun _ _ _ h => h) ?hla hS1 ?_
      case hla =>
        refine Or.inl ⟨by kernel_rfl, fun w1 hSw => ?_⟩
        refine exec_load_mid 61 (.tmp 3) rfl w.heap.size 0 ?hxa r.cs _ hSw Tryd.underlying61 rfl (by rw [HLn.out]; kernel_rfl)
        case hxa => go_simp
      (try simp only [Act.put, List.setIfInBounds_toArray, List.set_cons_zero, List.set_cons_succ])
      refine wpAnyH_take (i := 12) (v := ?va12) rfl (by kernel_rfl) (by kernel_rfl) (by kernel_rfl) (fun _ _ _ h => h) (Or.inl ⟨by kernel_rfl, ?hya12⟩) hS1 ?resta12
      case hya12 =>
        intro w hSw
        clear hSw
        go_simp
        first | done | with_reducible rfl
      (try simp only [Act.put, List.setIfInBounds_toArray, List.set_cons_zero, List.set_cons_succ])
      refine wpAnyH_take (i := 13) (v := ?va13) rfl (by kernel_rfl) (by kernel_rfl) (by kernel_rfl) (fun _ _ _ h => h) (Or.inl ⟨by kernel_rfl, ?hya13⟩) hS1 ?resta13
      case hya13 =>
        intro w hSw
        clear hSw
        go_simp
        first | done | with_reducible rfl
      (try simp only [Act.put, List.setIfInBounds_toArray, List.set_cons_zero, List.set_cons_succ])
      refine wpAnyH_call (i := 9) (by kernel_rfl) rfl (by kernel_rfl) fun K hK => ?_
      simp only [List.getElem_toArray, List.getElem_cons_succ, List.getElem_cons_zero]
      go_simp
      go_at_call 35
      refine (HM.out _).mono ?_
      rintro e w2 ⟨A2, x2, rfl, hown2, hb2⟩
      have hb2x := HbX.out.drew.trans (hb2.mono HbX.out.size)
      have hS2 : (fun w' : World => w'.rangeAt w.heap.size 0 r.cs) w2 := (HB0.out.drew.kept hb2).range
      refine hK.out _ _ hS2 ?_
      clear hK K
      (try simp only [Act.put, List.setIfInBounds_toArray, List.set_cons_zero, List.set_cons_succ])
      refine wpAnyH_call (i := 10) (by kernel_rfl) rfl (by kernel_rfl) fun K hK => ?_
      simp only [List.getElem_toArray, List.getElem_cons_succ, List.getElem_cons_zero]
      go_simp
      refine hK.out _ _ (((HB0.out.drew.kept hb2).alloc _).range) ?_
      clear hK K
      (try simp only [Act.put, List.setIfInBounds_toArray, List.set_cons_zero, List.set_cons_succ])
      refine wpAnyH_call (i := 11) (by kernel_rfl) rfl (by kernel_rfl) fun K hK => ?_
      simp only [List.getElem_toArray, List.getElem_cons_succ, List.getElem_cons_zero]
      go_simp
      go_at_call 16
      refine (HK.out _ A2 x2 hb2x (HT.out.kept hb2x) ((HBg.out.drew.kept hb2)) (own_base hown2 (by simp))).mono ?_
      rintro e w3 ⟨rfl, hb3⟩
      have hb3x := hb2x.trans (hb3.mono hb2x.size)
      have hB3 := ((HBg.out.drew.kept hb2)).kept hb3
      have hS3 : (fun w' : World => w'.rangeAt w.heap.size 0 r.cs) w3 := ((HB0.out.drew.kept hb2).kept hb3).range
      refine hK.out _ _ hS3 ?_
      clear hK K
      (try simp only [Act.put, List.setIfInBounds_toArray, List.set_cons_zero, List.set_cons_succ])
      refine wpAnyH_take (i := 14) (v := ?va14) rfl (by kernel_rfl) (by kernel_rfl) (by kernel_rfl) (fun _ _ _ h => h) (Or.inl ⟨by kernel_rfl, ?hya14⟩) hS3 ?resta14
      case hya14 =>
        intro w hSw
        clear hSw
        go_simp
        first | done | with_reducible rfl
      (try simp only [Act.put, List.setIfInBounds_toArray, List.set_cons_zero, List.set_cons_succ])
      refine wpAnyH_call (i := 15) (by kernel_rfl) rfl (by kernel_rfl) fun K hK => ?_
      simp only [List.getElem_toArray, List.getElem_cons_succ, List.getElem_cons_zero]
      refine wp_store_mid 26 (.tmp 22) (.tmp 19) rfl g 0 (ob.flatMap encB).toArray (by rfl) (by rfl) (hB3.there (by rw [HCz.out, List.size_toArray, flatB_len, HOl.out]; omega)) (by rw [List.size_toArray, flatB_len, HOl.out]; kernel_rfl) (all_oneCell_toArray (one_b ob)) ?_
      refine hK.out _ _ ((((HB0.out.drew.kept hb2).kept hb3).same (heap_setCells (by omega) _ _ _)).range) ?_
      clear hK K
      (try simp only [Act.put, List.setIfInBounds_toArray, List.set_cons_zero, List.set_cons_succ])
      refine wpAnyH_done (by kernel_rfl) ?_ _
      have hB4 := hB3.setCells (ob.flatMap encB) 0 _ _
      rw [HSet.out ob HOl.out] at hB4
      rw [show 32 * 0 = 0 from rfl] at HE
      rw [← HE.out] at hB4
      have hn4 : Near (fun i => i = g) w (w3.setCells g 0 (ob.flatMap encB)) := near_cells (S := fun i => i = g) rfl (ob.flatMap encB) 0 w3 (Near.of_below (fun i => i = g) hb3x)
      go_wp2
      exact bodyPost_end (results_none rfl _ _ _) rfl ⟨rfl, hB4, hn4⟩
  case neg =>
      rw [HZ.out] at HSet HK
      rw [HGo.out] at HE
      clear key HGo
      go_enter Tryd.func61, Tryd.ntmps61
      go_upto_region 4 with (fail)
      have HRb : Hid ((w.alloc (.cells r.cs.toArray 61)).rangeAt w.heap.size 0 r.cs) := Lib.hid fun j v hv => by
        rw [Nat.zero_add, HB0.out.cell j]; simpa using hv
      have hS1 : (fun w' : World => w'.rangeAt w.heap.size 0 r.cs) (w.alloc (.cells r.cs.toArray 61)).drew := HRb.out
      refine wp_region_held_drew (S := fun w' : World => w'.rangeAt w.heap.size 0 r.cs) (by kernel_rfl) hS1 (fun hHeld => ?_)
      refine wpAnyH_take (i := 0) (v := ?vb0) rfl (by kernel_rfl) (by kernel_rfl) (by kernel_rfl) (fun _ _ _ h => h) (Or.inl ⟨by kernel_rfl, ?hyb0⟩) hS1 ?restb0
      case hyb0 =>
        intro w hSw
        clear hSw
        go_simp
        first | done | with_reducible rfl
      (try simp only [Act.put, List.setIfInBounds_toArray, List.set_cons_zero, List.set_cons_succ])
      refine wpAnyH_take (i := 1) (v := ?vb1) rfl (by kernel_rfl) (by kernel_rfl) (by kernel_rfl) (fun _ _ _ h => h) (Or.inl ⟨by kernel_rfl, ?hyb1⟩) hS1 ?restb1
      case hyb1 =>
        intro w hSw
        clear hSw
        go_simp
        first | done | with_reducible rfl
      (try simp only [Act.put, List.setIfInBounds_toArray, List.set_cons_zero, List.set_cons_succ])
      refine wpAnyH_take (i := 2) (v := ?vb2) rfl (by kernel_rfl) (by kernel_rfl) (by kernel_rfl) (fun _ _ _ h => h) (Or.inl ⟨by kernel_rfl, ?hyb2⟩) hS1 ?restb2
      case hyb2 =>
        intro w hSw
        clear hSw
        go_simp
        first | done | with_reducible rfl
      (try simp only [Act.put, List.setIfInBounds_toArray, List.set_cons_zero, List.set_cons_succ])
      refine wpAnyH_take (i := 3) (v := ?vb3) rfl (by kernel_rfl) (by kernel_rfl) (by kernel_rfl) (fun _ _ _ h => h) (Or.inl ⟨by kernel_rfl, ?hyb3⟩) hS1 ?restb3
      case hyb3 =>
        intro w hSw
        clear hSw
        go_simp
        first | done | with_reducible rfl
      (try simp only [Act.put, List.setIfInBounds_toArray, List.set_cons_zero, List.set_cons_succ])
      refine wpAnyH_take (i := 4) (v := ?vb4) rfl (by kernel_rfl) (by kernel_rfl) (by kernel_rfl) (fun _ _ _ h => h) (Or.inl ⟨by kernel_rfl, ?hyb4⟩) hS1 ?restb4
      case hyb4 =>
        intro w hSw
        clear hSw
        go_simp
        first | done | with_reducible rfl
      (try simp only [Act.put, List.setIfInBounds_toArray, List.set_cons_zero, List.set_cons_succ])
      refine wpAnyH_take (i := 5) (v := ?vb5) rfl (by kernel_rfl) (by kernel_rfl) (by kernel_rfl) (fun _ _ _ h => h) (Or.inl ⟨by kernel_rfl, ?hyb5⟩) hS1 ?restb5
      case hyb5 =>
        intro w hSw
        clear hSw
        go_simp
        first | done | with_reducible rfl
      (try simp only [Act.put, List.setIfInBounds_toArray, List.set_cons_zero, List.set_cons_succ])
      refine wpAnyH_take (i := 6) (v := ?vb6) rfl (by kernel_rfl) (by kernel_rfl) (by kernel_rfl) (fun _ _ _ h => h) (Or.inl ⟨by kernel_rfl, ?hyb6⟩) hS1 ?restb6
      case hyb6 =>
        intro w hSw
        clear hSw
        go_simp
        first | done | with_reducible rfl
      (try simp only [Act.put, List.setIfInBounds_toArray, List.set_cons_zero, List.set_cons_succ])
      refine wpAnyH_take (i := 7) (v := ?vb7) rfl (by kernel_rfl) (by kernel_rfl) (by kernel_rfl) (fun _ _ _ h => h) (Or.inl ⟨by kernel_rfl, ?hyb7⟩) hS1 ?restb7
      case hyb7 =>
        intro w hSw
        clear hSw
        go_simp
        first | done | with_reducible rfl
      (try simp only [Act.put, List.setIfInBounds_toArray, List.set_cons_zero, List.set_cons_succ])
      refine wpAnyH_take (i := 8) (v := .agg r.cs.toArray) rfl (by kernel_rfl) (by kernel_rfl) (by kernel_rfl) (fun _ _ _ h => h) ?hlb hS1 ?_
      case hlb =>
        refine Or.inl ⟨by kernel_rfl, fun w1 hSw => ?_⟩
        refine exec_load_mid 61 (.tmp 3) rfl w.heap.size 0 ?hxb r.cs _ hSw Tryd.underlying61 rfl (by rw [HLn.out]; kernel_rfl)
        case hxb => go_simp
      (try simp only [Act.put, List.setIfInBounds_toArray, List.set_cons_zero, List.set_cons_succ])
      refine wpAnyH_take (i := 12) (v := ?vb12) rfl (by kernel_rfl) (by kernel_rfl) (by kernel_rfl) (fun _ _ _ h => h) (Or.inl ⟨by kernel_rfl, ?hyb12⟩) hS1 ?restb12
      case hyb12 =>
        intro w hSw
        clear hSw
        go_simp
        first | done | with_reducible rfl
      (try simp only [Act.put, List.setIfInBounds_toArray, List.set_cons_zero, List.set_cons_succ])
      refine wpAnyH_take (i := 13) (v := ?vb13) rfl (by kernel_rfl) (by kernel_rfl) (by kernel_rfl) (fun _ _ _ h => h) (Or.inl ⟨by kernel_rfl, ?hyb13⟩) hS1 ?restb13
      case hyb13 =>
        intro w hSw
        clear hSw
        go_simp
        first | done | with_reducible rfl
      (try simp only [Act.put, List.setIfInBounds_toArray, List.set_cons_zero, List.set_cons_succ])
      refine wpAnyH_call (i := 9) (by kernel_rfl) rfl (by kernel_rfl) fun K hK => ?_
      simp only [List.getElem_toArray, List.getElem_cons_succ, List.getElem_cons_zero]
      go_simp
      go_at_call 35
      refine (HM.out _).mono ?_
      rintro e w2 ⟨A2, x2, rfl, hown2, hb2⟩
      have hb2x := HbX.out.drew.trans (hb2.mono HbX.out.size)
      have hS2 : (fun w' : World => w'.rangeAt w.heap.size 0 r.cs) w2 := (HB0.out.drew.kept hb2).range
      refine hK.out _ _ hS2 ?_
      clear hK K
      (try simp only [Act.put, List.setIfInBounds_toArray, List.set_cons_zero, List.set_cons_succ])
      refine wpAnyH_call (i := 10) (by kernel_rfl) rfl (by kernel_rfl) fun K hK => ?_
      simp only [List.getElem_toArray, List.getElem_cons_succ, List.getElem_cons_zero]
      go_simp
      refine hK.out _ _ (((HB0.out.drew.kept hb2).alloc _).range) ?_
      clear hK K
      (try simp only [Act.put, List.setIfInBounds_toArray, List.set_cons_zero, List.set_cons_succ])
      refine wpAnyH_call (i := 11) (by kernel_rfl) rfl (by kernel_rfl) fun K hK => ?_
      simp only [List.getElem_toArray, List.getElem_cons_succ, List.getElem_cons_zero]
      go_simp
      go_at_call 16
      refine (HK.out _ A2 x2 hb2x (HT.out.kept hb2x) ((HBg.out.drew.kept hb2)) (own_base hown2 (by simp))).mono ?_
      rintro e w3 ⟨rfl, hb3⟩
      have hb3x := hb2x.trans (hb3.mono hb2x.size)
      have hB3 := ((HBg.out.drew.kept hb2)).kept hb3
      have hS3 : (fun w' : World => w'.rangeAt w.heap.size 0 r.cs) w3 := ((HB0.out.drew.kept hb2).kept hb3).range
      refine hK.out _ _ hS3 ?_
      clear hK K
      (try simp only [Act.put, List.setIfInBounds_toArray, List.set_cons_zero, List.set_cons_succ])
      refine wpAnyH_take (i := 14) (v := ?vb14) rfl (by kernel_rfl) (by kernel_rfl) (by kernel_rfl) (fun _ _ _ h => h) (Or.inl ⟨by kernel_rfl, ?hyb14⟩) hS3 ?restb14
      case hyb14 =>
        intro w hSw
        clear hSw
        go_simp
        first | done | with_reducible rfl
      (try simp only [Act.put, List.setIfInBounds_toArray, List.set_cons_zero, List.set_cons_succ])
      refine wpAnyH_call (i := 15) (by kernel_rfl) rfl (by kernel_rfl) fun K hK => ?_
      simp only [List.getElem_toArray, List.getElem_cons_succ, List.getElem_cons_zero]
      refine wp_store_mid 26 (.tmp 22) (.tmp 19) rfl g 32 (ob.flatMap encB).toArray (by rfl) (by rfl) (hB3.there (by rw [HCz.out, List.size_toArray, flatB_len, HOl.out]; omega)) (by rw [List.size_toArray, flatB_len, HOl.out]; kernel_rfl) (all_oneCell_toArray (one_b ob)) ?_
      refine hK.out _ _ ((((HB0.out.drew.kept hb2).kept hb3).same (heap_setCells (by omega) _ _ _)).range) ?_
      clear hK K
      (try simp only [Act.put, List.setIfInBounds_toArray, List.set_cons_zero, List.set_cons_succ])
      refine wpAnyH_done (by kernel_rfl) ?_ _
      have hB4 := hB3.setCells (ob.flatMap encB) 32 _ _
      rw [HSet.out ob HOl.out] at hB4
      rw [show 32 * 1 = 32 from rfl] at HE
      rw [← HE.out] at hB4
      have hn4 : Near (fun i => i = g) w (w3.setCells g 32 (ob.flatMap encB)) := near_cells (S := fun i => i = g) rfl (ob.flatMap encB) 32 w3 (Near.of_below (fun i => i = g) hb3x)
      go_wp2
      exact bodyPost_end (results_none rfl _ _ _) rfl ⟨rfl, hB4, hn4⟩
end Go.Proofs.YtjcklmhkdpbbdaaDoor
