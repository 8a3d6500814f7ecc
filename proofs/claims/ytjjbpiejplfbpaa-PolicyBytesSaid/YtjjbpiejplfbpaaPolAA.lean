/- Chapter 27, the law PolicyBytes: it returns true whatever the input, and leaves what was there. -/
import Derived.Test.YtjjbpiejplfbpaaPolZ
import Derived.Test.YtjjbpiejplfbpaaPolU
namespace Go.Proofs.Ytjjbpiejplfbpaa
set_option linter.unusedVariables false
set_option linter.unusedSimpArgs false
open Go.RowKit Go.Sort Go.ChangeShapes

def putBs (m : Mf) : List Int := if mputOk m then mBytes m else []
def putEr (m : Mf) : Int := if mputOk m then 0 else 271
theorem mput_u {m : Mf} {w : World} {f : FuncId} {A : Array Value} (hc : Calls Try.prog f A w (MputRes m w)) :
    Calls Try.prog f A w fun e w' => ∃ A' c', e = .returned (.tuple #[.slice A' (putBs m).length c', .int .i64 (putEr m)]) ∧ Rd w' w'.heap.size 1 A' (putBs m).length ((putBs m).flatMap encB) ∧ Below w.heap.size w w' :=
  hc.mono fun e w' ⟨hh, hb⟩ => by
    unfold putBs putEr
    rcases hh with ⟨h, A', c', he, ho⟩ | ⟨h, he⟩
    · rw [h]; exact ⟨A', c', he, Rd.of_own ho, hb⟩
    · rw [h]; exact ⟨none, 0, he, Rd.nil, hb⟩
def mf0 : Mf := ⟨0, 0, 0, 0, 0, List.replicate 64 0, none, 0, 0, [], none, 0, 0, []⟩
theorem mf0_cs : mf0.cs.toArray = m0cs := by kernel_rfl
theorem mf0_ok (w : World) (B : Nat) : MfOk w B mf0 :=
  ⟨by decide, by decide, by decide, by decide, by decide, fun x hx => (by rw [List.eq_of_mem_replicate hx]; decide), rfl, fun r hr => (by cases hr), Rd.nil, rfl, fun r hr => (by cases hr), Rd.nil⟩
def ofMf (l : List Int) : Mf := if mofOk l then mAt l else mf0
def ofEr (l : List Int) : Int := if mofOk l then 0 else 271
/-- The manifest read, wherever its parts lie. -/
structure Lies (K f : Mf) : Prop where
  lie : ∃ A n c A2 n2 c2, f = K.lie A n c A2 n2 c2 ∧ n ≤ 1000 ∧ n2 ≤ 1000
theorem Lies.eq {K f g : Mf} (h : Lies K f) (h' : Lies K g) : mfEq f g = true := by
  obtain ⟨A, n, c, A2, n2, c2, rfl, _⟩ := h.lie
  obtain ⟨A', n', c', A2', n2', c2', rfl, _⟩ := h'.lie
  unfold mfEq
  exact decide_eq_true ⟨rfl, rfl, rfl, rfl, rfl, rfl, rfl, rfl⟩
theorem Lies.small {K f : Mf} (h : Lies K f) : f.n ≤ 100000 ∧ f.n2 ≤ 100000 := by
  obtain ⟨A, n, c, A2, n2, c2, rfl, h1, h2⟩ := h.lie
  exact ⟨Nat.le_trans h1 (by decide), Nat.le_trans h2 (by decide)⟩
theorem of_u {l : List Int} {w : World} {f : FuncId} {A : Array Value} (hc : Calls Try.prog f A w (MofRes l w)) :
    Calls Try.prog f A w fun e w' => ∃ f : Mf, e = .returned (.tuple #[.agg f.cs.toArray, .int .i64 (ofEr l)]) ∧ MfOk w' w'.heap.size f ∧ Lies (ofMf l) f ∧ Below w.heap.size w w' :=
  hc.mono fun e w' ⟨hh, hb⟩ => by
    unfold ofMf ofEr
    rcases hh with ⟨h, A, n, c, A2, n2, c2, he, hf, h1, h2⟩ | ⟨h, he⟩
    · rw [h]; exact ⟨_, he, hf, ⟨A, n, c, A2, n2, c2, rfl, h1, h2⟩, hb⟩
    · rw [h]; exact ⟨mf0, by rw [mf0_cs]; exact he, mf0_ok _ _, ⟨none, 0, 0, none, 0, 0, rfl, by omega, by omega⟩, hb⟩
theorem refMfOf_any (A : Option Addr) (n c : Nat) (l : List Int) (w : World) (hl : l.length = n) (hok : BytesOk l) (hm : n ≤ 30000) (hnc : n ≤ c) (hr : Rd w w.heap.size 1 A n (l.flatMap encB)) :
    Calls Try.prog 18 #[.slice A n c] w (MofRes l w) := by
  by_cases h : 104 ≤ n ∧ recN l ≤ 64 ∧ 108 + 44 * recN l ≤ n
  · exact refMfOf_main A n c l w hl hok hm hnc hr h
  · exact refMfOf_early A n c l w hl hok hm hnc hr h

set_option maxRecDepth 100000 in
set_option maxHeartbeats 8000000 in
theorem policyBytes_any (m : Mf) (A : Option Addr) (n c : Nat) (l : List Int) (w : World) (hm : MfOk w w.heap.size m) (hn : m.n ≤ 9223372036854775807) (hn2 : m.n2 ≤ 9223372036854775807)
    (hl : l.length = n) (hok : BytesOk l) (hx : n ≤ maxLen) (hnc : n ≤ c) (hr : Rd w w.heap.size 1 A n (l.flatMap encB)) :
    Calls Try.prog 6 #[.agg m.cs.toArray, .slice A n c] w fun e w' => e = .returned (.bool true) ∧ Below w.heap.size w w' := by
  have hsz : m.cs.toArray.size = 71 := by simp [Mf.len hm.rl]
  have hz2 := (zero_of_info info_mf).1
  have hsz2 : m0cs.size = 71 := by decide +kernel
  have HB0 := Lib.hid (Blk.new w 55 m.cs.toArray)
  have HbX := Lib.hid (bal (Below.refl w.heap.size w) (.cells m.cs.toArray 55))
  have HR0 : Hid ((w.alloc (.cells m.cs.toArray 55)).rangeAt w.heap.size 0 m.cs) := Lib.hid (HB0.out.rangeIn fun j v hv => by rw [Nat.zero_add]; simpa using hv)
  have Him : Hid ((Try.prog.info? 55).map (·.size) = some m.cs.length) := Lib.hid (by rw [Mf.len hm.rl]; kernel_rfl)
  have HAw := Lib.hid (awake27_call HbX.out HR0.out (by simp))
  have HFw := Lib.hid (fun W (h : Below w.heap.size w W) (hr : W.rangeAt w.heap.size 0 m.cs) (hg : w.heap.size < W.heap.size) => few_call m hm.rl hn hn2 h hr hg)
  have hx2 : n ≤ 9223372036854775807 := Nat.le_trans hx (by decide)
  cases hf : mfew m with
  | false =>
    rw [hf] at HFw
    clear hf hm hn hn2 hr hl hok
    go_enter Try.func6, Try.ntmps6
    go_upto_region 3 with (go_at_call 8; refine HAw.out.mono ?_; rintro e w1 ⟨rfl, hb1, hr1, hbx1⟩)
    have hg1 : w.heap.size < w1.heap.size := by have := hb1.size; simp at this; omega
    go_wp2_with (first
      | (refine wpList_load_mid rfl 55 (.tmp 2) rfl w.heap.size 0 (by rfl) m.cs _ hr1 Try.underlying55 rfl Him.out ?_)
      | (go_at_call 12; refine (HFw.out _ hbx1 hr1 hg1).mono ?_; rintro e w2 ⟨rfl, hb2, hr2, hbx2⟩))
    go_ret
    exact ⟨rfl, hbx2⟩
  | true =>
    rw [hf] at HFw
    by_cases h5 : n ≤ 5000
    · have hsm : m.n ≤ 80 ∧ m.n2 ≤ 30 := of_decide_eq_true hf
      have HP1 := Lib.hid (fun W (h : Below w.heap.size w W) => mput_u (mput_any m W (hm.below h h.size) (by omega) (by omega)))
      have HP2 := Lib.hid (fun W (h : Below w.heap.size w W) => mput_u (refPutMf_any m W (hm.below h h.size) (by omega) (by omega)))
      have HO1 := Lib.hid (fun W (h : Below w.heap.size w W) => of_u (policyOf_any A n c l W hl hok (by omega) hnc ((hr.below h).more h.size)))
      have HO2 := Lib.hid (fun W (h : Below w.heap.size w W) => of_u (refMfOf_any A n c l W hl hok (by omega) hnc ((hr.below h).more h.size)))
      generalize ofMf l = K at *
      generalize ofEr l = er2 at *
      generalize hbs : putBs m = bs at *
      generalize putEr m = er1 at *
      clear hf hm hn hn2 hsm hr hl hok hbs hx
      go_enter Try.func6, Try.ntmps6
      go_upto_region 3 with (go_at_call 8; refine HAw.out.mono ?_; rintro e w1 ⟨rfl, hb1, hr1, hbx1⟩)
      have hg1 : w.heap.size < w1.heap.size := by have := hb1.size; simp at this; omega
      go_upto_region 5 with (first
        | (refine wpList_load_mid rfl 55 (.tmp 2) rfl w.heap.size 0 (by rfl) m.cs _ hr1 Try.underlying55 rfl Him.out ?_)
        | (go_at_call 12; refine (HFw.out _ hbx1 hr1 hg1).mono ?_; rintro e w2 ⟨rfl, hb2, hr2, hbx2⟩))
      have hg2 : w.heap.size < w2.heap.size := Nat.lt_of_lt_of_le hg1 hb2.size
      go_upto_region 6 with (first
        | (refine wpList_load_mid rfl 55 (.tmp 2) rfl w.heap.size 0 (by rfl) m.cs _ hr2 Try.underlying55 rfl Him.out ?_)
        | (go_at_call 15; refine (HP1.out _ hbx2).mono ?_; rintro e w3 ⟨A3, c3, rfl, hrd3, hb3⟩))
      have hbx3 := hbx2.trans (hb3.mono hbx2.size)
      have hr3 := range_below hr2 hg2 hb3
      have hg3 : w.heap.size < w3.heap.size := Nat.lt_of_lt_of_le hg2 hb3.size
      go_upto_region 7 with (first
        | (refine wpList_load_mid rfl 55 (.tmp 2) rfl w.heap.size 0 (by rfl) m.cs _ hr3 Try.underlying55 rfl Him.out ?_)
        | (go_at_call 16; refine (HP2.out _ hbx3).mono ?_; rintro e w4 ⟨A4, c4, rfl, hrd4, hb4⟩))
      have hbx4 := hbx3.trans (hb4.mono hbx3.size)
      have hrd34 := (hrd3.below hb4).more hb4.size
      clear hr1 hr2 hr3 hg1 hg2 hg3 hb1 hb2 hb3 hb4 hrd3 hbx1 hbx2 hbx3
      go_upto_region 8 with (go_at_call 17; refine (HO1.out _ hbx4).mono ?_; rintro e w5 ⟨f, rfl, hf5, hk5, hb5⟩; have hst := fun W => store_mf (cs := f.cs) (Mf.len hf5.rl) (Mf.one f) W; have hfl := Mf.len hf5.rl)
      refine wp_name ?_
      intro v5 hv5
      have hB5 : Blk v5 w5.heap.size 55 f.cs.toArray := by rw [hv5]; exact Blk.new _ _ _
      have hb45 : RowKit.Below w4.heap.size w4 v5 := by rw [hv5]; exact bal' hb5 _ hb5.size
      have hb55 : RowKit.Below w5.heap.size w5 v5 := by rw [hv5]; exact bal (Below.refl _ _) _
      have hfv := hf5.below hb55 hb55.size
      have hbx5 := hbx4.trans (hb45.mono hbx4.size)
      have hrd35 := (hrd34.below hb45).more hb45.size
      have hrd45 := (hrd4.below hb45).more hb45.size
      clear hst hfl hv5 hb5 hf5 hb55 hb45 hrd34 hrd4
      generalize w5.heap.size = g5 at *
      go_upto_region 9 with (go_at_call 18; refine (HO2.out _ hbx5).mono ?_; rintro e w6 ⟨g, rfl, hf6, hk6, hb6⟩; have hst := fun W => store_mf (cs := g.cs) (Mf.len hf6.rl) (Mf.one g) W; have hfl := Mf.len hf6.rl)
      refine wp_name ?_
      intro v6 hv6
      have hB6 : Blk v6 w6.heap.size 55 g.cs.toArray := by rw [hv6]; exact Blk.new _ _ _
      have hb56 : RowKit.Below v5.heap.size v5 v6 := by rw [hv6]; exact bal' hb6 _ hb6.size
      have hb66 : RowKit.Below w6.heap.size w6 v6 := by rw [hv6]; exact bal (Below.refl _ _) _
      have hgv := hf6.below hb66 hb66.size
      have hbx6 := hbx5.trans (hb56.mono hbx5.size)
      have hB5 := hB5.kept hb56
      have hfv := hfv.below hb56 hb56.size
      have s1 := conv_str ((hrd35.below hb56).more hb56.size) rfl c3
      have s2 := conv_str ((hrd45.below hb56).more hb56.size) rfl c4
      clear hst hfl hv6 hb6 hf6 hb66 hb56 hrd35 hrd45
      generalize w6.heap.size = g6 at *
      have hRf : v6.rangeAt g5 0 f.cs := hB5.rangeIn fun j v hv => by rw [Nat.zero_add]; simpa using hv
      have hRg : v6.rangeAt g6 0 g.cs := hB6.rangeIn fun j v hv => by rw [Nat.zero_add]; simpa using hv
      have Hif : Hid ((Try.prog.info? 55).map (·.size) = some f.cs.length) := Lib.hid (by rw [Mf.len hfv.rl]; kernel_rfl)
      have Hig : Hid ((Try.prog.info? 55).map (·.size) = some g.cs.length) := Lib.hid (by rw [Mf.len hgv.rl]; kernel_rfl)
      have HT := Lib.hid (refSame_any f g v6 hfv hgv hk5.small.1 hk5.small.2)
      rw [hk5.eq hk6] at HT
      have HbX6 := Lib.hid hbx6
      clear hk5 hk6 hbx6 hfv hgv
      go_wp2_with (first
        | (refine wpList_load_want (by kernel_rfl) 55 (.tmp 9) rfl g5 0 (by rfl) f.cs _ hRf Try.underlying55 rfl Hif.out ?_)
        | (refine wpList_load_want (by kernel_rfl) 55 (.tmp 11) rfl g6 0 (by rfl) g.cs _ hRg Try.underlying55 rfl Hig.out ?_)
        | (go_at_call 14; refine HT.out.mono ?_; rintro e w7 ⟨rfl, hb7⟩))
      go_ret
      exact ⟨rfl, HbX6.out.trans (hb7.mono HbX6.out.size)⟩
    · clear hf hm hn hn2 hr hl hok
      go_enter Try.func6, Try.ntmps6
      go_upto_region 3 with (go_at_call 8; refine HAw.out.mono ?_; rintro e w1 ⟨rfl, hb1, hr1, hbx1⟩)
      have hg1 : w.heap.size < w1.heap.size := by have := hb1.size; simp at this; omega
      go_wp2_with (first
        | (refine wpList_load_mid rfl 55 (.tmp 2) rfl w.heap.size 0 (by rfl) m.cs _ hr1 Try.underlying55 rfl Him.out ?_)
        | (go_at_call 12; refine (HFw.out _ hbx1 hr1 hg1).mono ?_; rintro e w2 ⟨rfl, hb2, hr2, hbx2⟩))
      go_ret
      exact ⟨rfl, hbx2⟩

set_option maxRecDepth 100000 in
theorem policyBytes_law : LawWalk Try.prog 6 Try.f6 := by
  intro H enc W base args ds p hval hA hlt hfz hsz
  rw [Try.params6] at hA hval
  obtain ⟨v0, v1, d0, d1, p0, p1, rfl, rfl, rfl, h0, h1⟩ := trodAll_two hA
  obtain ⟨m, rfl, hm, h2, h3⟩ := open_manifest (hval 0 55 v0 rfl rfl) h0 (fun x hx => hlt x (by simp [hx]))
  obtain ⟨A, n, c, l, rfl, hnc, hx, hl, hok, hr⟩ := open_bytes (hval 1 39 v1 rfl rfl) h1 (fun x hx => hlt x (by simp [hx]))
  exact policyBytes_any m A n c l W hm h2 h3 hl hok hx hnc hr
theorem policyBytes_proved : Rows.PolicyBytesSaid :=
  OpenClaim.holds_of_wide 6 Try.f6 rfl rfl rfl rfl rfl rfl rfl ⟨rfl, rfl, rfl, rfl, rfl⟩ rfl rfl rfl rfl rfl (by kernel_rfl) Try.func6 (by kernel_rfl)
    (of_decide_eq_true (by kernel_rfl)) (by unfold Func.isWrapper; rw [if_neg (of_decide_eq_false (by kernel_rfl))]; exact ⟨rfl, rfl⟩)
    (fun os started H enc _ => law_lifted (C := Try.checked) (s := Rows.policyBytesSpec) started own laidOut (by kernel_rfl) Try.func6 rfl (n := 2) (by kernel_rfl) (fun ds h => by match ds, h with | [_, _], _ => rfl) (tb := 4) (by kernel_rfl) Try.underlying4 (by kernel_rfl)
      (ChangeSpec.witness6 (enc := enc) (C := Try.checked) false ⟨#[], #[.agg #[.int .u32 0, .int .u64 0, .int .u64 0, .int .u64 0, .int .i64 0, .int .u8 0, .int .u8 0, .int .u8 0, .int .u8 0, .int .u8 0, .int .u8 0, .int .u8 0, .int .u8 0, .int .u8 0, .int .u8 0, .int .u8 0, .int .u8 0, .int .u8 0, .int .u8 0, .int .u8 0, .int .u8 0, .int .u8 0, .int .u8 0, .int .u8 0, .int .u8 0, .int .u8 0, .int .u8 0, .int .u8 0, .int .u8 0, .int .u8 0, .int .u8 0, .int .u8 0, .int .u8 0, .int .u8 0, .int .u8 0, .int .u8 0, .int .u8 0, .int .u8 0, .int .u8 0, .int .u8 0, .int .u8 0, .int .u8 0, .int .u8 0, .int .u8 0, .int .u8 0, .int .u8 0, .int .u8 0, .int .u8 0, .int .u8 0, .int .u8 0, .int .u8 0, .int .u8 0, .int .u8 0, .int .u8 0, .int .u8 0, .int .u8 0, .int .u8 0, .int .u8 0, .int .u8 0, .int .u8 0, .int .u8 0, .int .u8 0, .int .u8 0, .int .u8 0, .int .u8 0, .int .u8 0, .int .u8 0, .int .u8 0, .int .u8 0, .slice none 0 0, .slice none 0 0], .slice none 0 0], []⟩ 8 (by kernel_rfl) (by kernel_rfl) (by kernel_rfl) (by kernel_rfl)) policyBytes_law)
end Go.Proofs.Ytjjbpiejplfbpaa
