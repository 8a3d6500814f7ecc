/- Chapter 14: the document's writer: a guest; walked: up to the rows. -/
import Derived.Test.YtmhbpfclfffgkaaCfDn
import Derived.Test.YtmhbpfclfffgkaaCfWb
import Derived.Deep.CutRange
import Derived.Deep.CutBlock
namespace Go.Proofs.Ytmhbpfclfffgkaa
set_option linter.unusedVariables false
set_option linter.unusedSimpArgs false
open Go.RowKit Go.Sort



/-- The document's writer on its way, a guest's box beside it. -/
structure GDr (B gw gx K : Nat) (g : Gs × Gp) (bs : List Int) (e : Int) (w0 w : World) : Prop where
  st : DW B gw K bs e w
  box : Blk w gx 70 (gcells g).toArray
  wrt : Wrt B gw w0 w
  ne : gx ≠ gw
  le : B ≤ w.heap.size
section
variable {B gw gx K K' : Nat} {g : Gs × Gp} {bs bs' : List Int} {e e' : Int} {w0 w w' : World}
theorem GDr.below (h : GDr B gw gx K g bs e w0 w) (hb : Below w.heap.size w w') : GDr B gw gx K g bs e w0 w' := ⟨h.st.below hb, h.box.kept hb, h.wrt.trans (Wrt.of_below hb h.le), h.ne, Nat.le_trans h.le hb.size⟩
theorem GDr.step (h : GDr B gw gx K g bs e w0 w) (hs : DW B gw K' bs' e' w') (hw : Wrt B gw w w') : GDr B gw gx K' g bs' e' w0 w' := ⟨hs, h.box.wrt hw (by decide) h.ne, h.wrt.trans hw, h.ne, Nat.le_trans h.le hw.size⟩
end
theorem GDr.mono {B gw gx K K' : Nat} {g : Gs × Gp} {bs bs' : List Int} {e : Int} {w0 w : World} (h : GDr B gw gx K g bs e w0 w) (hK : K ≤ K') (hb : e = 0 → bs = bs') : GDr B gw gx K' g bs' e w0 w := ⟨h.st.mono hK hb, h.box, h.wrt, h.ne, h.le⟩
theorem GDr.err {B gw gx K : Nat} {g : Gs × Gp} {bs : List Int} {e : Int} {w0 w : World} (h : GDr B gw gx K g bs e w0 w) : w.cell? ⟨gw, 1, none⟩ = some (.int .i64 e) ∧ gw < w.heap.size := by
  obtain ⟨_, _, _, _, h, _⟩ := h.st
  exact ⟨h.cell 1, h.lt⟩
theorem iq_fst (x : Iq) : fst (fst 0 (if inB x.num 65535 then 0 else 144)) (if inB x.cpu 65535 then 0 else 144) = fst 0 (if iqOk x then 0 else 144) := by
  unfold iqOk
  cases inB x.num 65535 <;> cases inB x.cpu 65535 <;> rfl
theorem fst_all (e : Int) (a b c d f : Bool) : fst (fst (fst (fst (fst e (if a then 0 else 143)) (if b then 0 else 144)) (if c then 0 else 142)) (if d then 0 else 144)) (if f then 0 else 144) = fst e (if a = false then 143 else if b = false then 144 else if c = false then 142 else if d = false then 144 else if f = false then 144 else 0) := by
  by_cases h : e = 0
  · subst h
    cases a <;> cases b <;> cases c <;> cases d <;> cases f <;> rfl
  · unfold fst
    simp [h]
theorem all_take {α : Type} {p : α → Bool} {l : List α} {k : Nat} {x : α} (h : (l.take k).all p = true) (hx : l[k]? = some x) : (l.take (k + 1)).all p = p x := by
  rw [List.take_add_one, hx, List.all_append, h]; simp
theorem all_bad {α : Type} {p : α → Bool} {l : List α} {k : Nat} {x : α} (hx : l[k]? = some x) (h : p x = false) : l.all p = false := by
  rw [← Bool.not_eq_true]
  intro h2
  have := List.all_eq_true.1 h2 x (List.mem_of_getElem? hx)
  rw [h] at this; cases this
theorem flat_take {α : Type} {f : α → List Int} {l : List α} {k : Nat} {x : α} (hx : l[k]? = some x) : (l.take (k + 1)).flatMap f = (l.take k).flatMap f ++ f x := by
  rw [List.take_add_one, hx, List.flatMap_append]; simp
theorem DW.stored {B gw n K : Nat} {bs bs' nf : List Int} {w : World} {u A' : Option Addr} {m c c' : Nat} {e : Int} (hB : B ≤ gw) (hx : Blk w gw 81 #[.slice u m c, .int .i64 e]) (hown : w.ownsRow B 5 1 (.slice A' (bs'.length + n) c') (bs'.length + n) (bs'.flatMap encB ++ nf.flatMap encB)) (hl : nf.length = n) (hK : bs'.length ≤ K) (hbs : e = 0 → bs' = bs) : DW B gw (K + n) (bs ++ nf) e (w.setCell ⟨gw, 0, none⟩ (.slice A' (bs'.length + n) c')) := by
  subst hl
  have h1 := hx.set_ 0 (.slice A' (bs'.length + nf.length) c')
  refine ⟨hB, A', c', bs' ++ nf, ?_, ?_, by rw [List.length_append]; omega, fun he => by rw [hbs he]⟩
  · rw [List.length_append]; simpa using h1
  · rw [List.length_append, List.flatMap_append]
    exact own_same hown fun k hk => Below.heap_setCell _ _ _ _ (by
      intro e
      have e : k = gw := e
      subst e
      exact own_blk_ne hown hx (by decide) hk.symm)
/-- What the head of a guest leaves. -/
def headE (g : Gs) (e : Int) : Int := fst (fst (fst e (if nameN (strB g.nm) then 0 else 143)) (if keyB g.key then 0 else 144)) (if cntOk g then 0 else 142)
set_option maxRecDepth 100000 in
set_option maxHeartbeats 8000000 in
theorem dguest_any (B gw K : Nat) (bs : List Int) (e : Int) (g : Gs × Gp) (w : World) (hS : DW B gw K bs e w) (hB : B ≤ w.heap.size) (hG : GsR w B g) (hm : K ≤ 100000) (hf : g.1.ws.length ≤ 20 ∧ g.1.ds.length ≤ 20 ∧ g.1.qs.length ≤ 70 ∧ g.1.ss.length ≤ 40 ∧ g.1.nm.size ≤ 100) :
    Calls Try.prog 35 #[.pointer (some ⟨gw, 0, none⟩), .agg (gcells g).toArray] w fun r w' => r = .returned (.tuple #[]) ∧ DW B gw (K + 2000) (bs ++ gB g.1) (fst e (gErr g.1)) w' ∧ Wrt B gw w w' := by
  have hgl : gw < w.heap.size := by obtain ⟨_, _, _, _, h, _⟩ := hS; exact h.lt
  have hb0 := bal (Below.refl w.heap.size w) (.cells (gcells g).toArray 70)
  have hW0 : GDr B gw w.heap.size K g bs e w (w.alloc (.cells (gcells g).toArray 70)) := ⟨hS.below hb0, Blk.new w 70 (gcells g).toArray, Wrt.of_below hb0 hB, by omega, Nat.le_trans hB hb0.size⟩
  have HG := Lib.hid hG
  have HF := Lib.hid hf
  have hkl := hG.kl
  have cX := (gst_cells hW0.box hkl).c0
  have hbm : B ≤ w.heap.size + 1 := by omega
  have HN := Lib.hid (dname_any B gw K bs e g.1.nm _ hW0.st (by omega) (by have := hf.2.2.2.2; omega) hW0.le)
  obtain ⟨e1, he1⟩ : ∃ x, fst e (if nameN (strB g.1.nm) then 0 else 143) = x := ⟨_, rfl⟩
  rw [he1] at HN
  have HE1 := Lib.hid he1
  clear hS hG hf he1
  go_enter Try.func35, Try.ntmps35
  go_upto_region 1 with (fail)
  obtain ⟨gx, hgx⟩ : ∃ gx, w.heap.size = gx := ⟨_, rfl⟩
  rw [hgx] at hW0 cX ⊢
  generalize w.alloc (.cells (gcells g).toArray 70) = w1 at *
  go_upto_region 2 with (go_at_call 73; refine HN.out.mono ?_; rintro r1 w2 ⟨rfl, hd, hw⟩)
  have hW1 := hW0.step hd hw
  clear hd hw hW0 cX HN hb0 hgx
  have cX := (gst_cells hW1.box hkl).c1
  have HT := Lib.hid (dtruth_any B gw (K + 16) _ e1 g.1.mand _ hW1.st (by omega))
  go_upto_region 3 with (go_at_call 74; refine HT.out.mono ?_; rintro r1 w3 ⟨rfl, hd, hw⟩)
  have hW2 := hW1.step hd hw
  clear hd hw hW1 cX HT
  have u2 : g.1.off % 18446744073709551616 = g.1.off := by have := HG.out.off; unfold inU32 at this; omega
  have u3 : g.1.len % 18446744073709551616 = g.1.len := by have := HG.out.len; unfold inU32 at this; omega
  have u4 : g.1.cpus % 18446744073709551616 = g.1.cpus := by have := HG.out.cpus; unfold inU32 at this; omega
  have c3 := (gst_cells hW2.box hkl).c2
  have H3 := Lib.hid (dput_any B gw (K+16+4) 4 _ e1 g.1.off _ hW2.st (by omega) (by omega) HG.out.off.1 (by have := HG.out.off.2; omega))
  go_upto_region 4 with (go_at_call 34; refine H3.out.mono ?_; rintro r1 w3 ⟨rfl, hd, hw⟩)
  have hW3 := hW2.step hd hw
  clear c3 H3 hd hw hW2
  have c4 := (gst_cells hW3.box hkl).c3
  have H4 := Lib.hid (dput_any B gw (K+16+4+4) 4 _ e1 g.1.len _ hW3.st (by omega) (by omega) HG.out.len.1 (by have := HG.out.len.2; omega))
  go_upto_region 5 with (go_at_call 34; refine H4.out.mono ?_; rintro r1 w4 ⟨rfl, hd, hw⟩)
  have hW4 := hW3.step hd hw
  clear c4 H4 hd hw hW3
  have c5 := (gst_cells hW4.box hkl).c4
  have H5 := Lib.hid (dput_any B gw (K+16+4+4+4) 4 _ e1 g.1.cpus _ hW4.st (by omega) (by omega) HG.out.cpus.1 (by have := HG.out.cpus.2; omega))
  go_upto_region 6 with (go_at_call 34; refine H5.out.mono ?_; rintro r1 w5 ⟨rfl, hd, hw⟩)
  have hW5 := hW4.step hd hw
  clear c5 H5 hd hw hW4
  have c6 := (gst_cells hW5.box hkl).c5
  have H6 := Lib.hid (dput_any B gw (K+16+4+4+4+4) 8 _ e1 g.1.entry _ hW5.st (by omega) (by omega) HG.out.entry.1 HG.out.entry.2)
  go_upto_region 7 with (go_at_call 34; refine H6.out.mono ?_; rintro r1 w6 ⟨rfl, hd, hw⟩)
  have hW6 := hW5.step hd hw
  clear c6 H6 hd hw hW5
  have c7 := (gst_cells hW6.box hkl).c6
  have H7 := Lib.hid (dput_any B gw (K+16+4+4+4+4+8) 8 _ e1 g.1.dtb _ hW6.st (by omega) (by omega) HG.out.dtb.1 HG.out.dtb.2)
  go_upto_region 8 with (go_at_call 34; refine H7.out.mono ?_; rintro r1 w7 ⟨rfl, hd, hw⟩)
  have hW7 := hW6.step hd hw
  clear c7 H7 hd hw hW6
  clear u2 u3 u4
  obtain ⟨b7, hb7⟩ : ∃ b, ((((((bs ++ nameF g.1.nm) ++ bytesN 4 false (truthN g.1.mand)) ++ bytesN 4 false g.1.off) ++ bytesN 4 false g.1.len) ++ bytesN 4 false g.1.cpus) ++ bytesN 8 false g.1.entry) ++ bytesN 8 false g.1.dtb = b := ⟨_, rfl⟩
  rw [hb7] at hW7
  have HB7 := Lib.hid hb7
  clear hb7
  obtain ⟨ky, hky⟩ : ∃ b, keyB g.1.key = b := ⟨_, rfl⟩
  obtain ⟨kv, hkv⟩ : ∃ x : Int, (if keyB g.1.key then 0 else 80) = x := ⟨_, rfl⟩
  have hk0 : (kv == 0) = ky := by rw [← hkv, hky]; cases ky <;> rfl
  have HKy := Lib.hid (rkeyOf_any gx 7 68 g.1.key w7 hkl HG.out.kb (Nat.le_refl _) (by decide) ⟨by rw [flatB_len, hkl], fun _ => ⟨gx, 7, rfl, hW7.box.lt, (gst_cells hW7.box hkl).key⟩⟩)
  rw [hkv] at HKy
  have HKe := Lib.hid hky
  have hz65 : Try.zeroCells129.size = 65 := by kernel_rfl
  clear hky hkv
  go_upto_region 9 with (first
    | (go_at_call 71; refine HKy.out.mono ?_; rintro r1 w8 ⟨Kc, hKl, hK1, rfl, hb8⟩; have hZ := Blk.new w8 129 Try.zeroCells129; have hbZ := bal (Below.refl w8.heap.size w8) (.cells Try.zeroCells129 129))
    | (refine wpList_store_blk rfl 129 (.tmp 4) (.tmp 48) rfl w8.heap.size 0 Kc.toArray (by rfl) (by rfl) hZ (by rw [List.size_toArray, hKl, hz65]; decide) (by rw [List.size_toArray, hKl]; kernel_rfl) (by rw [List.all_toArray]; exact List.all_eq_true.2 hK1) (setAt_all _ _ (by rw [hz65]; exact hKl)) ?_; intro w9 hX9 hb9 hz9 hh9))
  have hW9 := hW7.below (hb8.trans ((hbZ.trans (hb9 _ (Nat.le_refl _))).mono hb8.size))
  clear hW7 HKy hz65 hKl hK1 hb8 hZ hbZ hX9 hb9 hz9 hh9
  have HM := Lib.hid (dmust_any B gw _ b7 e1 144 ky w9 hW9.st)
  obtain ⟨e2, he2⟩ : ∃ x, fst e1 (if ky then 0 else 144) = x := ⟨_, rfl⟩
  rw [he2] at HM
  have HE2 := Lib.hid he2
  clear he2
  go_upto_region 10 with (go_at_call 37; refine HM.out.mono ?_; rintro r1 w12 ⟨rfl, hd, hw⟩)
  have hW12 := hW9.step hd hw
  clear hd hw hW9 HM hk0
  -- the key's bytes
  have hgk := (gst_cells hW12.box hkl).key
  have hRd : Rd w12.drew w12.drew.heap.size 1 (some ⟨gx, 7, none⟩) 68 (g.1.key.flatMap encB) := ⟨by rw [flatB_len, hkl], fun _ => ⟨gx, 7, rfl, hW12.box.lt, hgk⟩⟩
  obtain ⟨_, A, c, bs', hBx, hown, hbK, hbs'⟩ := hW12.st
  have cB5 := hBx.drew.cell
  obtain ⟨nb, hnb⟩ : ∃ n, bs'.length = n := ⟨_, rfl⟩
  have HNb := Lib.hid hnb
  have HBK := Lib.hid hbK
  have HBS := Lib.hid hbs'
  rw [hnb] at hBx hown cB5
  have hnK : nb ≤ K + 200 := by omega
  clear hnb hbK hbs'
  refine wp_region_held_drew (S := fun W' : World => True) (by kernel_rfl) trivial (fun hHeld => ?_)
  clear hHeld
  refine wpAnyH_take (i := 0) (v := ?vc0) rfl (by kernel_rfl) (by kernel_rfl) (by kernel_rfl) (fun _ _ _ h => h) (Or.inl ⟨by kernel_rfl, ?hyc0⟩) trivial ?restc0
  case hyc0 =>
    intro w hSw
    clear hSw
    go_simp
    first | done | with_reducible rfl
  (try simp only [List.getElem_toArray, List.getElem_cons_succ, List.getElem_cons_zero, Act.put, List.setIfInBounds_toArray, List.set_cons_zero, List.set_cons_succ])
  refine wpAnyH_take (i := 1) (v := ?vc1) rfl (by kernel_rfl) (by kernel_rfl) (by kernel_rfl) (fun _ _ _ h => h) (Or.inl ⟨by kernel_rfl, ?hyc1⟩) trivial ?restc1
  case hyc1 =>
    intro w hSw
    clear hSw
    go_simp
    first | done | with_reducible rfl
  (try simp only [List.getElem_toArray, List.getElem_cons_succ, List.getElem_cons_zero, Act.put, List.setIfInBounds_toArray, List.set_cons_zero, List.set_cons_succ])
  refine wpAnyH_take (i := 2) (v := ?vc2) rfl (by kernel_rfl) (by kernel_rfl) (by kernel_rfl) (fun _ _ _ h => h) (Or.inl ⟨by kernel_rfl, ?hyc2⟩) trivial ?restc2
  case hyc2 =>
    intro w hSw
    clear hSw
    go_simp
    first | done | with_reducible rfl
  (try simp only [List.getElem_toArray, List.getElem_cons_succ, List.getElem_cons_zero, Act.put, List.setIfInBounds_toArray, List.set_cons_zero, List.set_cons_succ])
  refine wpAnyH_take (i := 3) (v := ?vc3) rfl (by kernel_rfl) (by kernel_rfl) (by kernel_rfl) (fun _ _ _ h => h) (Or.inl ⟨by kernel_rfl, ?hyc3⟩) trivial ?restc3
  case hyc3 =>
    intro w hSw
    clear hSw
    go_simp
    first | done | with_reducible rfl
  (try simp only [List.getElem_toArray, List.getElem_cons_succ, List.getElem_cons_zero, Act.put, List.setIfInBounds_toArray, List.set_cons_zero, List.set_cons_succ])
  refine wpAnyH_take (i := 5) (v := ?vc5) rfl (by kernel_rfl) (by kernel_rfl) (by kernel_rfl) (fun _ _ _ h => h) (Or.inl ⟨by kernel_rfl, ?hyc5⟩) trivial ?restc5
  case hyc5 =>
    intro w hSw
    clear hSw
    go_simp
    first | done | with_reducible rfl
  (try simp only [List.getElem_toArray, List.getElem_cons_succ, List.getElem_cons_zero, Act.put, List.setIfInBounds_toArray, List.set_cons_zero, List.set_cons_succ])
  refine wpAnyH_take (i := 6) (v := ?vc6) rfl (by kernel_rfl) (by kernel_rfl) (by kernel_rfl) (fun _ _ _ h => h) (Or.inl ⟨by kernel_rfl, ?hyc6⟩) trivial ?restc6
  case hyc6 =>
    intro w hSw
    clear hSw
    go_simp
    first | done | with_reducible rfl
  (try simp only [List.getElem_toArray, List.getElem_cons_succ, List.getElem_cons_zero, Act.put, List.setIfInBounds_toArray, List.set_cons_zero, List.set_cons_succ])
  refine wpAnyH_call (i := 4) (by kernel_rfl) rfl (by kernel_rfl) fun K hK => ?_
  simp only [List.getElem_toArray, List.getElem_cons_succ, List.getElem_cons_zero]
  go_simp
  refine hK.out _ _ trivial ?_
  clear hK K
  (try simp only [List.getElem_toArray, List.getElem_cons_succ, List.getElem_cons_zero, Act.put, List.setIfInBounds_toArray, List.set_cons_zero, List.set_cons_succ])
  refine wpAnyH_call (i := 7) (by kernel_rfl) rfl (by kernel_rfl) fun K hK => ?_
  simp only [List.getElem_toArray, List.getElem_cons_succ, List.getElem_cons_zero]
  refine wp_app w12.drew u8_elem (.tmp 58) (.tmp 60) rfl B (.slice A nb c) nb (bs'.flatMap encB) ?hs8 hown w12.drew.heap.size (some ⟨gx, 7, none⟩) 68 68 (g.1.key.flatMap encB) ?hx8 hRd (one_b _) (by unfold maxLen; omega) (by omega) hW12.le ?_
  case hs8 => go_simp
  case hx8 => go_simp
  intro v' w6 hown' hb6 hg6
  obtain ⟨A', c', rfl, _, _⟩ := own_slice hown'
  have hBx6 := hBx.drew.grown hg6 (fun e => own_blk_ne hown hBx (by decide) e)
  refine hK.out _ _ trivial ?_
  clear hK K
  (try simp only [List.getElem_toArray, List.getElem_cons_succ, List.getElem_cons_zero, Act.put, List.setIfInBounds_toArray, List.set_cons_zero, List.set_cons_succ])
  refine wpAnyH_take (i := 8) (v := ?vc8) rfl (by kernel_rfl) (by kernel_rfl) (by kernel_rfl) (fun _ _ _ h => h) (Or.inl ⟨by kernel_rfl, ?hyc8⟩) trivial ?restc8
  case hyc8 =>
    intro w hSw
    clear hSw
    go_simp
    first | done | with_reducible rfl
  (try simp only [List.getElem_toArray, List.getElem_cons_succ, List.getElem_cons_zero, Act.put, List.setIfInBounds_toArray, List.set_cons_zero, List.set_cons_succ])
  refine wpAnyH_take (i := 9) (v := ?vc9) rfl (by kernel_rfl) (by kernel_rfl) (by kernel_rfl) (fun _ _ _ h => h) (Or.inl ⟨by kernel_rfl, ?hyc9⟩) trivial ?restc9
  case hyc9 =>
    intro w hSw
    clear hSw
    go_simp
    first | done | with_reducible rfl
  (try simp only [List.getElem_toArray, List.getElem_cons_succ, List.getElem_cons_zero, Act.put, List.setIfInBounds_toArray, List.set_cons_zero, List.set_cons_succ])
  have cB6 := hBx6.cell
  have fB6 := hBx6.frozen
  clear cB5
  refine wpAnyH_call (i := 10) (by kernel_rfl) rfl (by kernel_rfl) fun K hK => ?_
  simp only [List.getElem_toArray, List.getElem_cons_succ, List.getElem_cons_zero]
  go_simp
  refine hK.out _ _ trivial ?_
  clear hK K
  (try simp only [List.getElem_toArray, List.getElem_cons_succ, List.getElem_cons_zero, Act.put, List.setIfInBounds_toArray, List.set_cons_zero, List.set_cons_succ])
  refine wpAnyH_done (by kernel_rfl) ?_ _
  have hdr : Below w12.heap.size w12 w12.drew := (Below.refl _ _).drew
  have hrow : w12.drew.ownsRow B 5 1 (.slice A nb c) nb (bs'.flatMap encB) := hown
  have hst7 : DW B gw (K + 16 + 4 + 4 + 4 + 4 + 8 + 8 + 68) (b7 ++ g.1.key) e2 (w6.setCell ⟨gw, 0, none⟩ (.slice A' (nb + 68) c')) := by
    have hnb := HNb.out
    subst hnb
    exact DW.stored hW12.st.1 hBx6 hown' hkl HBK.out HBS.out
  have hwr7 : Wrt B gw w12 (w6.setCell ⟨gw, 0, none⟩ (.slice A' (nb + 68) c')) := ((Wrt.of_below hdr hW12.le).grown hrow (Nat.le_refl _) hg6 hW12.le).set hW12.st.1 0 _
  have hW13 := hW12.step hst7 hwr7
  clear hst7 hwr7 hrow hdr hBx6 cB6 fB6 hown' hb6 hg6 hRd hown hBx hgk HNb HBK HBS hnK hW12
  generalize w6.setCell ⟨gw, 0, none⟩ (.slice A' (nb + 68) c') = w13 at *
  -- the counts
  obtain ⟨nW, hnW⟩ : ∃ n, g.1.ws.length = n := ⟨_, rfl⟩
  obtain ⟨nD, hnD⟩ : ∃ n, g.1.ds.length = n := ⟨_, rfl⟩
  obtain ⟨nI, hnI⟩ : ∃ n, g.1.qs.length = n := ⟨_, rfl⟩
  obtain ⟨nS, hnS⟩ : ∃ n, g.1.ss.length = n := ⟨_, rfl⟩
  have HnW := Lib.hid hnW
  have HnD := Lib.hid hnD
  have HnI := Lib.hid hnI
  have HnS := Lib.hid hnS
  have HBd : Hid (nW ≤ 20 ∧ nD ≤ 20 ∧ nI ≤ 70 ∧ nS ≤ 40) := Lib.hid (by have := HF.out; omega)
  have HCn : Hid (cntOk g.1 = ((((decide (1 ≤ nW) && decide (nW ≤ 16)) && decide (nD ≤ 16)) && decide (nI ≤ 64)) && decide (nS ≤ 32))) := Lib.hid (by unfold cntOk; rw [hnW, hnD, hnI, hnS])
  obtain ⟨-, -, -, -, -, -, -, cW, cD, cI, cS, -⟩ := gst_cells hW13.box hkl
  rw [hnW] at cW
  rw [hnD] at cD
  rw [hnI] at cI
  rw [hnS] at cS
  clear hnW hnD hnI hnS
  obtain ⟨e3, he3⟩ : ∃ x, fst e2 (if cntOk g.1 then 0 else 142) = x := ⟨_, rfl⟩
  have HE3 := Lib.hid he3
  clear he3
  have HM := Lib.hid (fun is (h : is = cntOk g.1) => show Calls Try.prog 37 #[.pointer (some ⟨gw, 0, none⟩), .bool is, .int .i64 142] w13 fun r w' => r = .returned (.tuple #[]) ∧ GDr B gw gx (K + 16 + 4 + 4 + 4 + 4 + 8 + 8 + 68) g (b7 ++ g.1.key) e3 w w' from (dmust_any B gw _ _ e2 142 is w13 hW13.st).mono fun r w' hh => by
    rw [h, HE3.out] at hh
    exact ⟨hh.1, hW13.step hh.2.1 hh.2.2⟩)
  go_upto_region 11 with (fail)
  go_cut [] from 64 (fun wx => GDr B gw gx (K + 16 + 4 + 4 + 4 + 4 + 8 + 8 + 68) g (b7 ++ g.1.key) e3 w wx)
  case first =>
    by_cases z1 : 1 ≤ nW
    case neg =>
      have y1 : decide ((1 : Int) ≤ (nW : Int)) = false := decide_eq_false (by omega)
      have HM := Lib.hid (HM.out false (by rw [HCn.out, decide_eq_false z1]; rfl))
      clear z1
      go_wp2_with (go_at_call 37; refine HM.out.mono ?_; rintro r1 w14 ⟨rfl, hd⟩)
      go_meet
      exact hd
    have y1 : decide ((1 : Int) ≤ (nW : Int)) = true := decide_eq_true (by omega)
    by_cases z2 : nW ≤ 16
    case neg =>
      have y2 : decide ((nW : Int) ≤ 16) = false := decide_eq_false (by omega)
      have HM := Lib.hid (HM.out false (by rw [HCn.out, decide_eq_false z2, Bool.and_false]; rfl))
      clear z1 z2
      go_wp2_with (go_at_call 37; refine HM.out.mono ?_; rintro r1 w14 ⟨rfl, hd⟩)
      go_meet
      exact hd
    have y2 : decide ((nW : Int) ≤ 16) = true := decide_eq_true (by omega)
    by_cases z3 : nD ≤ 16
    case neg =>
      have y3 : decide ((nD : Int) ≤ 16) = false := decide_eq_false (by omega)
      have HM := Lib.hid (HM.out false (by rw [HCn.out, decide_eq_false z3, Bool.and_false]; rfl))
      clear z1 z2 z3
      go_wp2_with (go_at_call 37; refine HM.out.mono ?_; rintro r1 w14 ⟨rfl, hd⟩)
      go_meet
      exact hd
    have y3 : decide ((nD : Int) ≤ 16) = true := decide_eq_true (by omega)
    by_cases z4 : nI ≤ 64
    case neg =>
      have y4 : decide ((nI : Int) ≤ 64) = false := decide_eq_false (by omega)
      have HM := Lib.hid (HM.out false (by rw [HCn.out, decide_eq_false z4, Bool.and_false]; rfl))
      clear z1 z2 z3 z4
      go_wp2_with (go_at_call 37; refine HM.out.mono ?_; rintro r1 w14 ⟨rfl, hd⟩)
      go_meet
      exact hd
    have y4 : decide ((nI : Int) ≤ 64) = true := decide_eq_true (by omega)
    have HM := Lib.hid (HM.out (decide ((nS : Int) ≤ 32)) (by
      rw [HCn.out, decide_eq_true z1, decide_eq_true z2, decide_eq_true z3, decide_eq_true z4]
      simp only [Bool.true_and]
      exact decide_eq_decide.2 (by omega)))
    clear z1 z2 z3 z4
    go_wp2_with (go_at_call 37; refine HM.out.mono ?_; rintro r1 w14 ⟨rfl, hd⟩)
    go_meet
    exact hd
  case rest =>
    clear HM cW cD cI cS hW13
    have hW14 := hcut
    clear hcut
    obtain ⟨-, -, -, -, -, -, -, cW, cD, cI, cS, -⟩ := gst_cells hW14.box hkl
    rw [HnW.out] at cW
    rw [HnD.out] at cD
    rw [HnI.out] at cI
    rw [HnS.out] at cS
    have hbL := bal (Below.refl wc.heap.size wc) (.cells #[.int .i64 nW, .int .i64 nD, .int .i64 nI, .int .i64 nS] 3)
    have hWL := hW14.below hbL
    have hIn := Blk.new wc 3 #[.int .i64 nW, .int .i64 nD, .int .i64 nI, .int .i64 nS]
    have hlt : gw < wc.heap.size := by obtain ⟨_, _, _, _, h, _⟩ := hW14.st; exact h.lt
    obtain ⟨ib, hib⟩ : ∃ b, wc.heap.size = b := ⟨_, rfl⟩
    have hiw : ib ≠ gw := by omega
    have HLn : Hid (lenL g.1 = [(nW : Int), nD, nI, nS]) := Lib.hid (by unfold lenL; rw [HnW.out, HnD.out, HnI.out, HnS.out])
    rw [hib] at hIn
    go_upto_region 13 with (fail)
    (try rw [hib])
    generalize wc.alloc (.cells #[.int .i64 nW, .int .i64 nD, .int .i64 nI, .int .i64 nS] 3) = w15 at *
    clear cW cD cI cS hbL hlt hib hW14
    obtain ⟨K1, hK1⟩ : ∃ k, K + 16 + 4 + 4 + 4 + 4 + 8 + 8 + 68 = k := ⟨_, rfl⟩
    have hK1b : K1 ≤ 100116 := by omega
    rw [hK1] at hWL
    have HK1 := Lib.hid hK1
    obtain ⟨b8, hb8⟩ : ∃ b, b7 ++ g.1.key = b := ⟨_, rfl⟩
    rw [hb8] at hWL
    have HB8 := Lib.hid hb8
    clear hK1 hb8
    go_loopw [7, 108] (fun _ iv wr => ∃ k : Nat, k ≤ 4 ∧ iv = .int .i64 k ∧ Hid (GDr B gw gx (K1 + 2 * k) g (b8 ++ ([(nW : Int), nD, nI, nS].take k).flatMap (bytesN 2 false)) e3 w wr ∧ Blk wr ib 3 #[.int .i64 nW, .int .i64 nD, .int .i64 nI, .int .i64 nS])) (fun _ iv _ => 4 - (intOf iv).toNat)
    case atStart => exact ⟨0, by omega, rfl, Lib.hid ⟨by simpa using hWL, hIn⟩⟩
    case round =>
      obtain ⟨k, hk, rfl, hh⟩ := hrel
      by_cases hlt : k < 4
      · have hd4 : decide ((k : Int) < 4) = true := decide_eq_true (by omega)
        have hgd := hh.out.1
        have hbk := hh.out.2
        obtain ⟨x, hx, hx0, hx1⟩ : ∃ x : Int, [(nW : Int), nD, nI, nS][k]? = some x ∧ 0 ≤ x ∧ x ≤ 100 := by
          have := HBd.out
          obtain rfl | rfl | rfl | rfl : k = 0 ∨ k = 1 ∨ k = 2 ∨ k = 3 := by omega
          · exact ⟨_, rfl, by omega, by omega⟩
          · exact ⟨_, rfl, by omega, by omega⟩
          · exact ⟨_, rfl, by omega, by omega⟩
          · exact ⟨_, rfl, by omega, by omega⟩
        have cx : wr.cell? ⟨ib, k, none⟩ = some (.int .i64 x) := by
          rw [hbk.cell k]
          obtain rfl | rfl | rfl | rfl : k = 0 ∨ k = 1 ∨ k = 2 ∨ k = 3 := by omega
          all_goals
            simp only [List.getElem?_cons_zero, List.getElem?_cons_succ, Option.some.injEq] at hx
            subst hx
            rfl
        have u1 : x % 18446744073709551616 = x := by omega
        have HP := Lib.hid (dput_any B gw (K1 + 2 * k) 2 _ e3 x wr hgd.st (by omega) (by omega) hx0 (by omega))
        have HX := Lib.hid (show ([(nW : Int), nD, nI, nS].take (k + 1)).flatMap (bytesN 2 false) = ([(nW : Int), nD, nI, nS].take k).flatMap (bytesN 2 false) ++ bytesN 2 false x by
          rw [List.take_add_one, hx, List.flatMap_append]; simp)
        clear hx hh
        go_wp2_with (go_at_call 34; refine HP.out.mono ?_; rintro r1 w16 ⟨rfl, hd, hw⟩)
        have hg2 := hgd.step hd hw
        have hb2 := hbk.wrt hw (by decide) hiw
        go_roundw
        case rel => exact ⟨k + 1, by omega, by go_num, Lib.hid ⟨by rw [HX.out, ← List.append_assoc]; exact hg2, hb2⟩⟩
        case measure => simp [intOf]; omega
      · obtain rfl : k = 4 := by omega
        have hW16 := hh.out.1
        clear hh hIn hWL
        obtain ⟨b9, hb9⟩ : ∃ b, b8 ++ ([(nW : Int), nD, nI, nS].take 4).flatMap (bytesN 2 false) = b := ⟨_, rfl⟩
        rw [hb9] at hW16
        have HB9 := Lib.hid hb9
        clear hb9
        obtain ⟨K2, hK2⟩ : ∃ k, K1 + 2 * 4 = k := ⟨_, rfl⟩
        rw [hK2] at hW16
        have HK2 := Lib.hid hK2
        have hK2b : K2 ≤ 100124 := by omega
        clear hK2 hK1b
        obtain ⟨e4, he4⟩ : ∃ x, fst e3 (if g.1.ws.all wnOk then 0 else 144) = x := ⟨_, rfl⟩
        have HE4 := Lib.hid he4
        clear he4
        obtain ⟨e5, he5⟩ : ∃ x, fst e4 (if g.1.qs.all iqOk then 0 else 144) = x := ⟨_, rfl⟩
        have HE5 := Lib.hid he5
        clear he5
        have HWa := Lib.hid hW16
        clear hW16
        have HZw : Hid True := Lib.hid trivial
        go_upto_block 2 with (fail)
        go_cut [] from 117 (fun wx => GDr B gw gx (K2 + 28 * 20) g (b9 ++ g.1.ws.flatMap wnB) e4 w wx)
        case first =>
          go_wp2_with fail
          go_loopw [8, 9] (fun iv _ wx => ∃ (k : Nat) (ek : Int), k ≤ nW ∧ iv = .int .i64 k ∧ Hid (GDr B gw gx (K2 + 28 * k) g (b9 ++ (g.1.ws.take k).flatMap wnB) ek w wx ∧ (ek = 0 → e3 = 0 ∧ (g.1.ws.take k).all wnOk = true) ∧ (ek ≠ 0 → ek = e4))) (fun iv _ _ => nW - (intOf iv).toNat)
          case atStart => exact ⟨0, e3, by omega, rfl, Lib.hid ⟨by simpa using HWa.out, fun h => ⟨h, rfl⟩, fun h => by rw [← HE4.out]; unfold fst; rw [if_neg h]⟩⟩
          case round =>
            obtain ⟨k, ek, hk, rfl, hh⟩ := hrel
            have hgd := hh.out.1
            obtain ⟨cE, hgl⟩ := hgd.err
            have cW := (gst_cells hgd.box hkl).cW
            rw [HnW.out] at cW
            by_cases hlt : k < nW
            · skip
              have hlk : decide ((k : Int) < (nW : Int)) = true := decide_eq_true (by omega)
              by_cases hek : ek = 0
              · skip
                obtain ⟨x, hx⟩ : ∃ x, g.1.ws[k]? = some x := ⟨_, List.getElem?_eq_getElem (by rw [HnW.out]; exact hlt)⟩
                have hxl : k < g.1.ws.length := by rw [HnW.out]; exact hlt
                have hxe : g.1.ws[k] = x := by rw [List.getElem?_eq_getElem hxl] at hx; exact Option.some.inj hx
                have HOk := Lib.hid (HG.out.oW x (List.mem_of_getElem? hx))
                obtain ⟨b0, o0, hA0, hb0, hrow⟩ := (HG.out.rW.below hgd.wrt.below).range (fun _ _ => rfl) hxl rfl
                rw [hxe] at hrow
                rw [hA0] at cW
                have HA0 := Lib.hid hA0
                have HX := Lib.hid hx
                have HFl := Lib.hid (flat_take (f := wnB) hx)
                have hnw : nW ≤ 20 ∧ nD ≤ 20 ∧ nI ≤ 70 ∧ nS ≤ 40 := HBd.out
                have hee : (ek == 0) = true := by simp [hek]
                clear hx hxe hxl hA0
                have HEk := Lib.hid (hh.out.2.1 hek)
                have HEK := Lib.hid hek
                clear hek hh
                have d0 := hrow 0 _ rfl
                have d1 := hrow 1 _ rfl
                have d2 := hrow 2 _ rfl
                have d3 := hrow 3 _ rfl
                simp only [Nat.add_zero] at d0
                have hX := Blk.new wr 135 #[.int .u64 x.ipa, .int .u64 x.pa, .int .u64 x.size, .int .i64 x.perm]
                have hbZ := bal (Below.refl wr.heap.size wr) (.cells #[.int .u64 x.ipa, .int .u64 x.pa, .int .u64 x.size, .int .i64 x.perm] 135)
                go_upto_region 21 with (fail)
                have hg0 := hgd.below hbZ
                have hne : wr.heap.size ≠ gw := by omega
                generalize wr.alloc (.cells #[.int .u64 x.ipa, .int .u64 x.pa, .int .u64 x.size, .int .i64 x.perm] 135) = w20 at *
                generalize wr.heap.size = xb at *
                clear hbZ d0 d1 d2 d3 hrow hgd cE cW hgl hb0
                have c0 := hX.cell 0
                have H0 := Lib.hid (dput_any B gw _ 8 _ ek x.ipa w20 hg0.st (by omega) (by omega) HOk.out.1.1 HOk.out.1.2)
                go_upto_region 22 with (go_at_call 34; refine H0.out.mono ?_; rintro r1 w21 ⟨rfl, hd, hw⟩)
                have hg1 := hg0.step hd hw
                have hX1 := hX.wrt hw (by decide) hne
                clear c0 H0 hd hw hg0 hX
                have c1 := hX1.cell 1
                have H1 := Lib.hid (dput_any B gw _ 8 _ ek x.pa w21 hg1.st (by omega) (by omega) HOk.out.2.1.1 HOk.out.2.1.2)
                go_upto_region 23 with (go_at_call 34; refine H1.out.mono ?_; rintro r1 w22 ⟨rfl, hd, hw⟩)
                have hg2 := hg1.step hd hw
                have hX2 := hX1.wrt hw (by decide) hne
                clear c1 H1 hd hw hg1 hX1
                have c2 := hX2.cell 2
                have H2 := Lib.hid (dput_any B gw _ 8 _ ek x.size w22 hg2.st (by omega) (by omega) HOk.out.2.2.1.1 HOk.out.2.2.1.2)
                go_upto_region 24 with (go_at_call 34; refine H2.out.mono ?_; rintro r1 w23 ⟨rfl, hd, hw⟩)
                have hg3 := hg2.step hd hw
                have hX3 := hX2.wrt hw (by decide) hne
                clear c2 H2 hd hw hg2 hX2
                have c3 := hX3.cell 3
                have H3 := Lib.hid (dsmall_any B gw _ 4 _ ek x.perm 7 w23 hg3.st (by omega) (by omega) (by omega))
                go_wp2_with (go_at_call 36; refine H3.out.mono ?_; rintro r1 w24 ⟨rfl, hd, hw⟩)
                have hg4 := hg3.step hd hw
                have HQ := Lib.hid (hg4.mono (K' := K2 + 28 * (k + 1)) (bs' := b9 ++ (g.1.ws.take k).flatMap wnB ++ wnB x) (by omega) (fun _ => by simp [wnB]))
                have hpx : inB x.perm 7 = wnOk x := rfl
                rw [HEK.out, hpx] at HQ
                clear hd hw hg3 hg4 c3 H3 hX3
                go_roundw
                case rel =>
                  (repeat apply Exists.intro)
                  refine ⟨⟨k + 1, fst 0 (if wnOk x then 0 else 144), by omega, by go_num, Lib.hid ⟨by rw [HFl.out, ← List.append_assoc]; exact HQ.out, fun h => ⟨HEk.out.1, ?_⟩, fun h => ?_⟩⟩, rfl⟩
                  · rw [all_take HEk.out.2 HX.out]
                    have h2 := (fst_zero h).2
                    split at h2
                    · assumption
                    · omega
                  · have hb : wnOk x = false := by
                      rw [← Bool.not_eq_true]
                      intro h2
                      rw [h2] at h
                      exact h rfl
                    rw [← HE4.out, all_bad HX.out hb, hb, HEk.out.1]
                case measure => simp [intOf]; omega
              · have hee : (ek == 0) = false := by simp [hek]
                go_wp2_with fail
                go_meet
                have he := hh.out.2.2 hek
                subst he
                exact hgd.mono (by have := HBd.out; omega) (fun h => absurd h hek)
            · have hlk : decide ((k : Int) < (nW : Int)) = false := decide_eq_false (by omega)
              have hkn : k = nW := by omega
              have hall : g.1.ws.take k = g.1.ws := List.take_of_length_le (by rw [HnW.out]; omega)
              go_wp2_with fail
              go_meet
              by_cases hek : ek = 0
              · have h2 := hh.out.2.1 hek
                rw [hall] at h2 hgd
                have he : e4 = ek := by rw [← HE4.out, h2.2, h2.1, hek]; rfl
                rw [he]
                exact hgd.mono (by have := HBd.out; omega) (fun _ => rfl)
              · have he := hh.out.2.2 hek
                subst he
                exact hgd.mono (by have := HBd.out; omega) (fun h => absurd h hek)
        case rest =>
          obtain ⟨K3, hK3⟩ : ∃ k, K2 + 28 * 20 = k := ⟨_, rfl⟩
          obtain ⟨b10, hb3⟩ : ∃ b, b9 ++ g.1.ws.flatMap wnB = b := ⟨_, rfl⟩
          rw [hK3, hb3] at hcut
          have HK3 := Lib.hid hK3
          have HB10 := Lib.hid hb3
          have hK3b : K3 ≤ 100684 := by omega
          have HK3W := Lib.hid hcut
          clear hK3 hb3 hcut hK2b
          go_upto_block 4 with (fail)
          go_cut [] from 152 (fun wx => GDr B gw gx (K3 + 24 * 20) g (b10 ++ g.1.ds.flatMap dvB) e4 w wx)
          case first =>
            go_wp2_with fail
            go_loopw [10] (fun iv wx => ∃ (k : Nat), k ≤ nD ∧ iv = .int .i64 k ∧ Hid (GDr B gw gx (K3 + 24 * k) g (b10 ++ (g.1.ds.take k).flatMap dvB) e4 w wx)) (fun iv _ => nD - (intOf iv).toNat)
            case atStart => exact ⟨0, by omega, rfl, Lib.hid (by simpa using HK3W.out)⟩
            case round =>
              obtain ⟨k, hk, rfl, hh⟩ := hrel
              have hgd := hh.out
              obtain ⟨cE, hgl⟩ := hgd.err
              have cD := (gst_cells hgd.box hkl).cD
              rw [HnD.out] at cD
              by_cases hlt : k < nD
              · skip
                have hlk : decide ((k : Int) < (nD : Int)) = true := decide_eq_true (by omega)
                by_cases hek : e4 = 0
                · skip
                  obtain ⟨x, hx⟩ : ∃ x, g.1.ds[k]? = some x := ⟨_, List.getElem?_eq_getElem (by rw [HnD.out]; exact hlt)⟩
                  have hxl : k < g.1.ds.length := by rw [HnD.out]; exact hlt
                  have hxe : g.1.ds[k] = x := by rw [List.getElem?_eq_getElem hxl] at hx; exact Option.some.inj hx
                  have HOk := Lib.hid (HG.out.oD x (List.mem_of_getElem? hx))
                  obtain ⟨b0, o0, hA0, hb0, hrow⟩ := (HG.out.rD.below hgd.wrt.below).range (fun _ _ => rfl) hxl rfl
                  rw [hxe] at hrow
                  rw [hA0] at cD
                  have HA0 := Lib.hid hA0
                  have HX := Lib.hid hx
                  have HFl := Lib.hid (flat_take (f := dvB) hx)
                  have hnw : nW ≤ 20 ∧ nD ≤ 20 ∧ nI ≤ 70 ∧ nS ≤ 40 := HBd.out
                  have hee : (e4 == 0) = true := by simp [hek]
                  clear hx hxe hxl hA0
                  have HEK := Lib.hid hek
                  clear hek hh
                  have q0 := hrow 0 _ rfl
                  have q1 := hrow 1 _ rfl
                  have q2 := hrow 2 _ rfl
                  rw [Nat.add_zero] at q0
                  clear hrow
                  have H0 := Lib.hid (dput_any B gw _ 8 _ e4 x.ipa wr hgd.st (by omega) (by omega) HOk.out.1.1 HOk.out.1.2)
                  go_upto_region 28 with (fail)
                  go_wp2_with (fail)
                  refine H0.out.mono ?_
                  rintro r1 v0 ⟨rfl, hd, hw⟩
                  have hg0 := hgd.step hd hw
                  have cD0 := (gst_cells hg0.box hkl).cD
                  rw [HnD.out, HA0.out] at cD0
                  clear cD H0 hd
                  have q1x := (hw.below.cell (p := ⟨b0, o0 + k * 3 + 1, none⟩) hb0).trans q1
                  clear q1
                  have q2x := (hw.below.cell (p := ⟨b0, o0 + k * 3 + 2, none⟩) hb0).trans q2
                  clear q2
                  clear hw
                  have H1 := Lib.hid (dput_any B gw _ 8 _ e4 x.pa v0 hg0.st (by omega) (by omega) HOk.out.2.1.1 HOk.out.2.1.2)
                  go_upto_region 29 with (fail)
                  go_wp2_with (fail)
                  refine H1.out.mono ?_
                  rintro r1 v1 ⟨rfl, hd, hw⟩
                  have hg1 := hg0.step hd hw
                  have cD1 := (gst_cells hg1.box hkl).cD
                  rw [HnD.out, HA0.out] at cD1
                  clear cD0 H1 hd
                  have q2xx := (hw.below.cell (p := ⟨b0, o0 + k * 3 + 2, none⟩) hb0).trans q2x
                  clear q2x
                  clear hw
                  have H2 := Lib.hid (dput_any B gw _ 8 _ e4 x.size v1 hg1.st (by omega) (by omega) HOk.out.2.2.1 HOk.out.2.2.2)
                  go_upto_region 30 with (fail)
                  go_wp2_with (fail)
                  refine H2.out.mono ?_
                  rintro r1 v2 ⟨rfl, hd, hw⟩
                  have hg2 := hg1.step hd hw
                  have HQ := Lib.hid (hg2.mono (K' := K3 + 24 * (k + 1)) (bs' := b10 ++ (g.1.ds.take k).flatMap dvB ++ dvB x) (by omega) (fun _ => by simp [dvB]))
                  clear hd hw hg2
                  go_wp2_with (fail)
                  go_roundw
                  case rel =>
                    (repeat apply Exists.intro)
                    exact ⟨⟨k + 1, by omega, by go_num, Lib.hid (by rw [HFl.out, ← List.append_assoc]; exact HQ.out)⟩, rfl⟩
                  case measure => simp [intOf]; omega
                · have hee : (e4 == 0) = false := by simp [hek]
                  go_wp2_with fail
                  go_meet
                  exact hgd.mono (by have := HBd.out; omega) (fun h => absurd h hek)
              · have hlk : decide ((k : Int) < (nD : Int)) = false := decide_eq_false (by omega)
                have hkn : k = nD := by omega
                have hall : g.1.ds.take k = g.1.ds := List.take_of_length_le (by rw [HnD.out]; omega)
                go_wp2_with fail
                go_meet
                rw [hall] at hgd
                exact hgd.mono (by have := HBd.out; omega) (fun _ => rfl)
          case rest =>
            obtain ⟨K4, hK3⟩ : ∃ k, K3 + 24 * 20 = k := ⟨_, rfl⟩
            obtain ⟨b11, hb3⟩ : ∃ b, b10 ++ g.1.ds.flatMap dvB = b := ⟨_, rfl⟩
            rw [hK3, hb3] at hcut
            have HK4 := Lib.hid hK3
            have HB11 := Lib.hid hb3
            have hK4b : K4 ≤ 101164 := by omega
            have HK4W := Lib.hid hcut
            clear hK3 hb3 hcut hK3b
            go_upto_block 6 with (fail)
            go_cut [] from 190 (fun wx => GDr B gw gx (K4 + 8 * 70) g (b11 ++ g.1.qs.flatMap iqB) e5 w wx)
            case first =>
              go_wp2_with fail
              go_loopw [11] (fun iv wx => ∃ (k : Nat) (ek : Int), k ≤ nI ∧ iv = .int .i64 k ∧ Hid (GDr B gw gx (K4 + 8 * k) g (b11 ++ (g.1.qs.take k).flatMap iqB) ek w wx ∧ (ek = 0 → e4 = 0 ∧ (g.1.qs.take k).all iqOk = true) ∧ (ek ≠ 0 → ek = e5))) (fun iv _ => nI - (intOf iv).toNat)
              case atStart => exact ⟨0, e4, by omega, rfl, Lib.hid ⟨by simpa using HK4W.out, fun h => ⟨h, rfl⟩, fun h => by rw [← HE5.out]; unfold fst; rw [if_neg h]⟩⟩
              case round =>
                obtain ⟨k, ek, hk, rfl, hh⟩ := hrel
                have hgd := hh.out.1
                obtain ⟨cE, hgl⟩ := hgd.err
                have cI := (gst_cells hgd.box hkl).cI
                rw [HnI.out] at cI
                by_cases hlt : k < nI
                · skip
                  have hlk : decide ((k : Int) < (nI : Int)) = true := decide_eq_true (by omega)
                  by_cases hek : ek = 0
                  · skip
                    obtain ⟨x, hx⟩ : ∃ x, g.1.qs[k]? = some x := ⟨_, List.getElem?_eq_getElem (by rw [HnI.out]; exact hlt)⟩
                    have hxl : k < g.1.qs.length := by rw [HnI.out]; exact hlt
                    have hxe : g.1.qs[k] = x := by rw [List.getElem?_eq_getElem hxl] at hx; exact Option.some.inj hx
                    have HOk := Lib.hid (HG.out.oI x (List.mem_of_getElem? hx))
                    obtain ⟨b0, o0, hA0, hb0, hrow⟩ := (HG.out.rI.below hgd.wrt.below).range (fun _ _ => rfl) hxl rfl
                    rw [hxe] at hrow
                    rw [hA0] at cI
                    have HA0 := Lib.hid hA0
                    have HX := Lib.hid hx
                    have HFl := Lib.hid (flat_take (f := iqB) hx)
                    have hnw : nW ≤ 20 ∧ nD ≤ 20 ∧ nI ≤ 70 ∧ nS ≤ 40 := HBd.out
                    have hee : (ek == 0) = true := by simp [hek]
                    clear hx hxe hxl hA0
                    have HEk := Lib.hid (hh.out.2.1 hek)
                    have HEK := Lib.hid hek
                    clear hek hh
                    have q0 := hrow 0 _ rfl
                    have q1 := hrow 1 _ rfl
                    have q2 := hrow 2 _ rfl
                    rw [Nat.add_zero] at q0
                    clear hrow
                    have H0 := Lib.hid (dsmall_any B gw _ 2 _ ek x.num 65535 wr hgd.st (by omega) (by omega) (by omega))
                    go_upto_region 33 with (fail)
                    go_wp2_with (fail)
                    refine H0.out.mono ?_
                    rintro r1 v0 ⟨rfl, hd, hw⟩
                    have hg0 := hgd.step hd hw
                    have cI0 := (gst_cells hg0.box hkl).cI
                    rw [HnI.out, HA0.out] at cI0
                    clear cI H0 hd
                    have q1x := (hw.below.cell (p := ⟨b0, o0 + k * 3 + 1, none⟩) hb0).trans q1
                    clear q1
                    have q2x := (hw.below.cell (p := ⟨b0, o0 + k * 3 + 2, none⟩) hb0).trans q2
                    clear q2
                    clear hw
                    have H1 := Lib.hid (dsmall_any B gw _ 2 _ _ x.cpu 65535 v0 hg0.st (by omega) (by omega) (by omega))
                    go_upto_region 34 with (fail)
                    go_wp2_with (fail)
                    refine H1.out.mono ?_
                    rintro r1 v1 ⟨rfl, hd, hw⟩
                    have hg1 := hg0.step hd hw
                    have cI1 := (gst_cells hg1.box hkl).cI
                    rw [HnI.out, HA0.out] at cI1
                    clear cI0 H1 hd
                    have q2xx := (hw.below.cell (p := ⟨b0, o0 + k * 3 + 2, none⟩) hb0).trans q2x
                    clear q2x
                    clear hw
                    have H2 := Lib.hid (dtruth_any B gw _ _ _ x.edge v1 hg1.st (by omega))
                    go_upto_region 35 with (fail)
                    go_wp2_with (fail)
                    refine H2.out.mono ?_
                    rintro r1 v2 ⟨rfl, hd, hw⟩
                    have hg2 := hg1.step hd hw
                    have HQ := Lib.hid (hg2.mono (K' := K4 + 8 * (k + 1)) (bs' := b11 ++ (g.1.qs.take k).flatMap iqB ++ iqB x) (by omega) (fun _ => by simp [iqB]))
                    rw [HEK.out, iq_fst] at HQ
                    clear hd hw hg2
                    go_wp2_with (fail)
                    go_roundw
                    case rel =>
                      (repeat apply Exists.intro)
                      refine ⟨⟨k + 1, fst 0 (if iqOk x then 0 else 144), by omega, by go_num, Lib.hid ⟨by rw [HFl.out, ← List.append_assoc]; exact HQ.out, fun h => ⟨HEk.out.1, ?_⟩, fun h => ?_⟩⟩, rfl⟩
                      · rw [all_take HEk.out.2 HX.out]
                        have h2 := (fst_zero h).2
                        split at h2
                        · assumption
                        · omega
                      · have hb : iqOk x = false := by
                          rw [← Bool.not_eq_true]
                          intro h2
                          rw [h2] at h
                          exact h rfl
                        rw [← HE5.out, all_bad HX.out hb, hb, HEk.out.1]
                    case measure => simp [intOf]; omega
                  · have hee : (ek == 0) = false := by simp [hek]
                    go_wp2_with fail
                    go_meet
                    have he := hh.out.2.2 hek
                    subst he
                    exact hgd.mono (by have := HBd.out; omega) (fun h => absurd h hek)
                · have hlk : decide ((k : Int) < (nI : Int)) = false := decide_eq_false (by omega)
                  have hkn : k = nI := by omega
                  have hall : g.1.qs.take k = g.1.qs := List.take_of_length_le (by rw [HnI.out]; omega)
                  go_wp2_with fail
                  go_meet
                  by_cases hek : ek = 0
                  · have h2 := hh.out.2.1 hek
                    rw [hall] at h2 hgd
                    have he : e5 = ek := by rw [← HE5.out, h2.2, h2.1, hek]; rfl
                    rw [he]
                    exact hgd.mono (by have := HBd.out; omega) (fun _ => rfl)
                  · have he := hh.out.2.2 hek
                    subst he
                    exact hgd.mono (by have := HBd.out; omega) (fun h => absurd h hek)
            case rest =>
              obtain ⟨K5, hK3⟩ : ∃ k, K4 + 8 * 70 = k := ⟨_, rfl⟩
              obtain ⟨b12, hb3⟩ : ∃ b, b11 ++ g.1.qs.flatMap iqB = b := ⟨_, rfl⟩
              rw [hK3, hb3] at hcut
              have HK5 := Lib.hid hK3
              have HB12 := Lib.hid hb3
              have hK5b : K5 ≤ 101724 := by omega
              have HK5W := Lib.hid hcut
              clear hK3 hb3 hcut hK4b
              go_wp2_with fail
              go_loopw [12] (fun iv wx => ∃ (k : Nat), k ≤ nS ∧ iv = .int .i64 k ∧ Hid (GDr B gw gx (K5 + 4 * k) g (b12 ++ (g.1.ss.take k).flatMap (bytesN 4 false)) e5 w wx)) (fun iv _ => nS - (intOf iv).toNat)
              case atStart => exact ⟨0, by omega, rfl, Lib.hid (by simpa using HK5W.out)⟩
              case round =>
                obtain ⟨k, hk, rfl, hh⟩ := hrel
                have hgd := hh.out
                obtain ⟨cE, hgl⟩ := hgd.err
                have cS := (gst_cells hgd.box hkl).cS
                rw [HnS.out] at cS
                by_cases hlt : k < nS
                · skip
                  have hlk : decide ((k : Int) < (nS : Int)) = true := decide_eq_true (by omega)
                  by_cases hek : e5 = 0
                  · skip
                    obtain ⟨x, hx⟩ : ∃ x, g.1.ss[k]? = some x := ⟨_, List.getElem?_eq_getElem (by rw [HnS.out]; exact hlt)⟩
                    have hxl : k < g.1.ss.length := by rw [HnS.out]; exact hlt
                    have hxe : g.1.ss[k] = x := by rw [List.getElem?_eq_getElem hxl] at hx; exact Option.some.inj hx
                    have HOk := Lib.hid (HG.out.oS x (List.mem_of_getElem? hx))
                    obtain ⟨b0, o0, hA0, hb0, hrow⟩ := (HG.out.rS.below hgd.wrt.below).range (fun _ _ => rfl) hxl rfl
                    rw [hxe] at hrow
                    rw [hA0] at cS
                    have HA0 := Lib.hid hA0
                    have HX := Lib.hid hx
                    have HFl := Lib.hid (flat_take (f := (bytesN 4 false)) hx)
                    have hnw : nW ≤ 20 ∧ nD ≤ 20 ∧ nI ≤ 70 ∧ nS ≤ 40 := HBd.out
                    have hee : (e5 == 0) = true := by simp [hek]
                    clear hx hxe hxl hA0
                    have HEK := Lib.hid hek
                    clear hek hh
                    have q0 := hrow 0 _ rfl
                    rw [Nat.add_zero] at q0
                    rw [Nat.mul_one] at q0
                    have u1 : x % 18446744073709551616 = x := by have := HOk.out; unfold inU32 at this; omega
                    clear hrow
                    have H0 := Lib.hid (dput_any B gw _ 4 _ e5 x wr hgd.st (by omega) (by omega) HOk.out.1 (by have := HOk.out.2; omega))
                    go_upto_region 40 with (fail)
                    go_wp2_with (fail)
                    refine H0.out.mono ?_
                    rintro r1 v0 ⟨rfl, hd, hw⟩
                    have hg0 := hgd.step hd hw
                    have HQ := Lib.hid (hg0.mono (K' := K5 + 4 * (k + 1)) (bs' := b12 ++ (g.1.ss.take k).flatMap (bytesN 4 false) ++ (bytesN 4 false) x) (by omega) (fun _ => by simp))
                    clear hd hw hg0
                    go_wp2_with (fail)
                    go_roundw
                    case rel =>
                      (repeat apply Exists.intro)
                      exact ⟨⟨k + 1, by omega, by go_num, Lib.hid (by rw [HFl.out, ← List.append_assoc]; exact HQ.out)⟩, rfl⟩
                    case measure => simp [intOf]; omega
                  · have hee : (e5 == 0) = false := by simp [hek]
                    go_wp2_with fail
                    refine bodyPost_end (results_none rfl _ _ _) rfl ⟨rfl, ?_, hgd.wrt⟩
                    have hE : fst e (gErr g.1) = e5 := by
                      rw [← HE5.out, ← HE4.out, ← HE3.out, ← HE2.out, ← HE1.out, ← HKe.out]
                      exact (fst_all _ _ _ _ _ _).symm
                    rw [hE]
                    refine hgd.st.mono (by have := HBd.out; have := HK5.out; have := HK4.out; have := HK3.out; have := HK2.out; have := HK1.out; omega) (fun h => ?_)
                    exact absurd h hek
                · have hlk : decide ((k : Int) < (nS : Int)) = false := decide_eq_false (by omega)
                  have hkn : k = nS := by omega
                  have hall : g.1.ss.take k = g.1.ss := List.take_of_length_le (by rw [HnS.out]; omega)
                  go_wp2_with fail
                  rw [hall] at hgd
                  refine bodyPost_end (results_none rfl _ _ _) rfl ⟨rfl, ?_, hgd.wrt⟩
                  have hE : fst e (gErr g.1) = e5 := by
                    rw [← HE5.out, ← HE4.out, ← HE3.out, ← HE2.out, ← HE1.out, ← HKe.out]
                    exact (fst_all _ _ _ _ _ _).symm
                  rw [hE]
                  refine hgd.st.mono (by have := HBd.out; have := HK5.out; have := HK4.out; have := HK3.out; have := HK2.out; have := HK1.out; omega) (fun h => ?_)
                  rw [← HB12.out, ← HB11.out, ← HB10.out, ← HB9.out, ← HB8.out, ← HB7.out]
                  unfold gB gHd
                  rw [HLn.out]
                  simp only [List.flatMap_cons, List.flatMap_nil, List.append_assoc, List.append_nil, List.nil_append, List.cons_append, List.take_succ_cons, List.take_zero]
end Go.Proofs.Ytmhbpfclfffgkaa
