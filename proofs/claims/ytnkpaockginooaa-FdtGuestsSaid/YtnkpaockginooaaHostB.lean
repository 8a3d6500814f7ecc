/- Properties and nodes made (four, eight, said, node, at of host and fdt); walked. -/
import Derived.Test.YtnkpaockginooaaVal
import Derived.Deep.CutRange
namespace Go.Proofs.Ytnkpaockginooaa
set_option linter.unusedVariables false
set_option linter.unusedSimpArgs false
open Go.RowKit Go.Sort

theorem bytesNs_ok (s : Nat) (low : Bool) (l : List Int) : BytesOk (l.flatMap (bytesN s low)) := by
  intro x hx
  obtain ⟨y, _, hy⟩ := List.mem_flatMap.1 hx
  exact bytesN_ok s low y x hy
theorem bytesNs_len (s : Nat) (low : Bool) (l : List Int) : (l.flatMap (bytesN s low)).length = s * l.length := by
  induction l with
  | nil => simp
  | cons x l ih => simp [bytesN_len, ih, Nat.mul_succ]; omega
/-- A property laid into the named result's block. -/
theorem named_prop {w w1 : World} {g : Nat} {nm : ByteArray} {v : Value} {bs : List Int} (hg : w.heap.size ≤ g) (hc : Blk w1 g 88 #[.string ⟨#[]⟩, .slice none 0 0]) (hr : RowP 5 encB 1 bs w1 v) (hnm : nm.size ≤ maxLen) (hok : BytesOk bs) (hb : Below w.heap.size w w1) :
    Blk ((w1.setCell ⟨g, 0, none⟩ (.string nm)).setCell ⟨g, 1, none⟩ v) g 88 #[.string nm, v] ∧ PrP (nm, bs) ((w1.setCell ⟨g, 0, none⟩ (.string nm)).setCell ⟨g, 1, none⟩ v) (.agg #[.string nm, v]) ∧
      Below w.heap.size w ((w1.setCell ⟨g, 0, none⟩ (.string nm)).setCell ⟨g, 1, none⟩ v) := by
  have h1 := hc.set_ 0 (.string nm)
  have h2 := h1.set_ 1 v
  refine ⟨h2, PrP.mk hnm hok ?_, (hb.setCell (p := ⟨g, 0, none⟩) hg _).setCell (p := ⟨g, 1, none⟩) hg _⟩
  exact (hr.turn (Same.set hc (by decide) 0 _)).turn (Same.set h1 (by decide) 1 _)
set_option maxRecDepth 100000 in
set_option maxHeartbeats 1000000 in
theorem hfour_any (nm : ByteArray) (A : Option Addr) (n c : Nat) (l : List Int) (w : World) (hnm : nm.size ≤ maxLen) (hl : l.length = n) (hn : n ≤ 1000000) (hx : ∀ x ∈ l, 0 ≤ x ∧ x < 4294967296) (hr : Rd w w.heap.size 1 A n (l.flatMap encU32)) :
    Calls Try.prog 72 #[.string nm, .slice A n c] w fun e w' => ∃ v, e = .returned v ∧ PrP (nm, l.flatMap (bytesN 4 false)) w' v ∧ Below w.heap.size w w' := by
  have HP := Lib.hid (fun W (hW : Below w.heap.size w W) => putBe32_any none A 0 0 n c [] l W rfl hl (by decide) (by omega) hx Rd.nil (hr.kept hW))
  have hcells := fun w => (Blk.new w 88 #[.string ⟨#[]⟩, .slice none 0 0])
  have HB := Lib.hid (bal (Below.refl w.heap.size w) (.cells #[.string ⟨#[]⟩, .slice none 0 0] 88))
  have HL := Lib.hid (bytesNs_len 4 false l)
  clear hx hr
  go_enter Try.func72, Try.ntmps72
  go_wp2_with (go_at_call 82; refine (HP.out _ HB.out).mono ?_; rintro e w1 ⟨A1, c1, rfl, hown, hb1⟩; have hc := (hcells w).kept hb1; have hc0 := hc.cell; have hf0 := hc.frozen)
  have hrow := RowP.own (enc := encB) (l := l.flatMap (bytesN 4 false)) hown (by rw [HL.out, hl]; omega) (by simp)
  rw [Nat.zero_add] at hrow
  obtain ⟨z1, z2, z3⟩ := named_prop (nm := nm) (Nat.le_refl _) hc hrow hnm (bytesNs_ok 4 false l) (HB.out.trans (hb1.mono HB.out.size))
  have cZ := z1.cell
  exact bodyPost_ret (v := .agg #[.string nm, .slice A1 (4 * n) c1]) (by simp [results, Try.results72, go_sem, cZ]) rfl ⟨_, rfl, z2, z3⟩
set_option maxRecDepth 100000 in
set_option maxHeartbeats 1000000 in
theorem height_any (nm : ByteArray) (A : Option Addr) (n c : Nat) (l : List Int) (w : World) (hnm : nm.size ≤ maxLen) (hl : l.length = n) (hn : n ≤ 1000000) (hx : ∀ x ∈ l, 0 ≤ x ∧ x < 18446744073709551616) (hr : Rd w w.heap.size 1 A n (l.flatMap encQ)) :
    Calls Try.prog 102 #[.string nm, .slice A n c] w fun e w' => ∃ v, e = .returned v ∧ PrP (nm, l.flatMap (bytesN 8 false)) w' v ∧ Below w.heap.size w w' := by
  have HP := Lib.hid (fun W (hW : Below w.heap.size w W) => putBe64_any none A 0 0 n c [] l W rfl hl (by decide) (by omega) hx Rd.nil (hr.kept hW))
  have hcells := fun w => (Blk.new w 88 #[.string ⟨#[]⟩, .slice none 0 0])
  have HB := Lib.hid (bal (Below.refl w.heap.size w) (.cells #[.string ⟨#[]⟩, .slice none 0 0] 88))
  have HL := Lib.hid (bytesNs_len 8 false l)
  clear hx hr
  go_enter Try.func102, Try.ntmps102
  go_wp2_with (go_at_call 92; refine (HP.out _ HB.out).mono ?_; rintro e w1 ⟨A1, c1, rfl, hown, hb1⟩; have hc := (hcells w).kept hb1; have hc0 := hc.cell; have hf0 := hc.frozen)
  have hrow := RowP.own (enc := encB) (l := l.flatMap (bytesN 8 false)) hown (by rw [HL.out, hl]; omega) (by simp)
  rw [Nat.zero_add] at hrow
  obtain ⟨z1, z2, z3⟩ := named_prop (nm := nm) (Nat.le_refl _) hc hrow hnm (bytesNs_ok 8 false l) (HB.out.trans (hb1.mono HB.out.size))
  have cZ := z1.cell
  exact bodyPost_ret (v := .agg #[.string nm, .slice A1 (8 * n) c1]) (by simp [results, Try.results102, go_sem, cZ]) rfl ⟨_, rfl, z2, z3⟩
set_option maxRecDepth 100000 in
set_option maxHeartbeats 1000000 in
theorem gfour_any (nm : ByteArray) (A : Option Addr) (n c : Nat) (l : List Int) (w : World) (hnm : nm.size ≤ maxLen) (hl : l.length = n) (hn : n ≤ 1000000) (hx : ∀ x ∈ l, 0 ≤ x ∧ x < 4294967296) (hr : Rd w w.heap.size 1 A n (l.flatMap encU32)) :
    Calls Try.prog 50 #[.string nm, .slice A n c] w fun e w' => ∃ v, e = .returned v ∧ PrP (nm, l.flatMap (bytesN 4 false)) w' v ∧ Below w.heap.size w w' := by
  have HP := Lib.hid (fun W (hW : Below w.heap.size w W) => putBe32_any none A 0 0 n c [] l W rfl hl (by decide) (by omega) hx Rd.nil (hr.kept hW))
  have hcells := fun w => (Blk.new w 88 #[.string ⟨#[]⟩, .slice none 0 0])
  have HB := Lib.hid (bal (Below.refl w.heap.size w) (.cells #[.string ⟨#[]⟩, .slice none 0 0] 88))
  have HL := Lib.hid (bytesNs_len 4 false l)
  clear hx hr
  go_enter Try.func50, Try.ntmps50
  go_wp2_with (go_at_call 82; refine (HP.out _ HB.out).mono ?_; rintro e w1 ⟨A1, c1, rfl, hown, hb1⟩; have hc := (hcells w).kept hb1; have hc0 := hc.cell; have hf0 := hc.frozen)
  have hrow := RowP.own (enc := encB) (l := l.flatMap (bytesN 4 false)) hown (by rw [HL.out, hl]; omega) (by simp)
  rw [Nat.zero_add] at hrow
  obtain ⟨z1, z2, z3⟩ := named_prop (nm := nm) (Nat.le_refl _) hc hrow hnm (bytesNs_ok 4 false l) (HB.out.trans (hb1.mono HB.out.size))
  have cZ := z1.cell
  exact bodyPost_ret (v := .agg #[.string nm, .slice A1 (4 * n) c1]) (by simp [results, Try.results50, go_sem, cZ]) rfl ⟨_, rfl, z2, z3⟩
set_option maxRecDepth 100000 in
set_option maxHeartbeats 1000000 in
theorem geight_any (nm : ByteArray) (A : Option Addr) (n c : Nat) (l : List Int) (w : World) (hnm : nm.size ≤ maxLen) (hl : l.length = n) (hn : n ≤ 1000000) (hx : ∀ x ∈ l, 0 ≤ x ∧ x < 18446744073709551616) (hr : Rd w w.heap.size 1 A n (l.flatMap encQ)) :
    Calls Try.prog 54 #[.string nm, .slice A n c] w fun e w' => ∃ v, e = .returned v ∧ PrP (nm, l.flatMap (bytesN 8 false)) w' v ∧ Below w.heap.size w w' := by
  have HP := Lib.hid (fun W (hW : Below w.heap.size w W) => putBe64_any none A 0 0 n c [] l W rfl hl (by decide) (by omega) hx Rd.nil (hr.kept hW))
  have hcells := fun w => (Blk.new w 88 #[.string ⟨#[]⟩, .slice none 0 0])
  have HB := Lib.hid (bal (Below.refl w.heap.size w) (.cells #[.string ⟨#[]⟩, .slice none 0 0] 88))
  have HL := Lib.hid (bytesNs_len 8 false l)
  clear hx hr
  go_enter Try.func54, Try.ntmps54
  go_wp2_with (go_at_call 92; refine (HP.out _ HB.out).mono ?_; rintro e w1 ⟨A1, c1, rfl, hown, hb1⟩; have hc := (hcells w).kept hb1; have hc0 := hc.cell; have hf0 := hc.frozen)
  have hrow := RowP.own (enc := encB) (l := l.flatMap (bytesN 8 false)) hown (by rw [HL.out, hl]; omega) (by simp)
  rw [Nat.zero_add] at hrow
  obtain ⟨z1, z2, z3⟩ := named_prop (nm := nm) (Nat.le_refl _) hc hrow hnm (bytesNs_ok 8 false l) (HB.out.trans (hb1.mono HB.out.size))
  have cZ := z1.cell
  exact bodyPost_ret (v := .agg #[.string nm, .slice A1 (8 * n) c1]) (by simp [results, Try.results54, go_sem, cZ]) rfl ⟨_, rfl, z2, z3⟩
theorem wpList_appr {P : Program} {w : World} {ops : Array Oper} {rest : List Oper} {o : Oper} {a : Act} {Q : Exit → Act → World → Prop} {t tn : TypeId} (hgd : o.guard = none) (s x : Operand)
    (ho : o.op = .call { callee := .builtin .append, args := #[s, x], argTypes := #[t, tn] }) {vs vx : Value} (hs : a.eval s = vs) (hx : a.eval x = vx)
    {v' : Value} {w' : World} (hr : (Builtin.append_ #[t, tn] o.type #[vs, vx]).run P w = .ok v' w') (h : wpList P ops Q rest (a.put o.dst v') w') : wpList P ops Q (o :: rest) a w :=
  wpList_plain hgd fun _ hK => Lib.wp_append_run w s x t tn ho vs vx hs hx v' w' hr (hK _ _ h)
/-- A string's bytes and one byte behind. -/
theorem zero_row (s : ByteArray) (hs : s.size ≤ 1000000) (w : World) (ty : TypeId) : ∃ A c w', (Builtin.append_ #[28, 28] ty #[.slice (some ⟨w.heap.size, 0, none⟩) s.size (grownCap w s.size 0 5), .slice (some ⟨w.heap.size + 1, 0, none⟩) 1 1]).run Try.prog ((Lib.bytesWorld w 5 s).alloc (.cells #[.int .u8 0] 5)) = .ok (.slice A (s.size + 1) c) w' ∧
    RowP 5 encB 1 (strB s ++ [0]) w' (.slice A (s.size + 1) c) ∧ Below w.heap.size w w' := by
  obtain ⟨h1, h2, h3⟩ := conv_row w s (by unfold maxLen; omega)
  have hz : (Lib.bytesWorld w 5 s).heap.size = w.heap.size + 1 := Lib.bytesWorld_size _ _ _
  have hlt : w.heap.size < (Lib.bytesWorld w 5 s).heap.size := by omega
  obtain ⟨A, c, w', hr, ha, hb, hrd, hbl, htg⟩ := run_app0 ((Lib.bytesWorld w 5 s).alloc (.cells #[.int .u8 0] 5)) ty w.heap.size w.heap.size (grownCap w s.size 0 5) s.size 1 ⟨w.heap.size + 1, 0, none⟩ (strB s) 0 (h2.kept (Below.heap_alloc _ _ _ hlt))
    ((Blk.fresh (Lib.bytesWorld w 5 s) 5 #[.int .u8 0] (by omega)).cell 0) (by omega) (by simp; omega)
  exact ⟨A, c, w', hr, ⟨A, c, by simp [strB_len], by simp [strB_len]; omega, hb, by simpa [strB_len] using hrd, fun _ => htg⟩, (bal h3 _).trans hbl⟩
theorem strB0_ok (s : ByteArray) : BytesOk (strB s ++ [0]) := by
  intro x hx
  rcases List.mem_append.1 hx with h | h
  · exact strB_ok s x h
  · simp at h
    omega
set_option maxRecDepth 100000 in
set_option maxHeartbeats 1000000 in
theorem gzero_any (s : ByteArray) (w : World) (hs : s.size ≤ 1000000) : Calls Try.prog 90 #[.string s] w fun e w' => ∃ v, e = .returned v ∧ RowP 5 encB 1 (strB s ++ [0]) w' v ∧ Below w.heap.size w w' := by
  have hcv := (conv_row w s (by unfold maxLen; omega)).1
  obtain ⟨A, c, w', hr, hp, hb⟩ := zero_row s hs w 28
  have hz : (Lib.bytesWorld w 5 s).heap.size = w.heap.size + 1 := Lib.bytesWorld_size _ _ _
  generalize Lib.bytesWorld w 5 s = w5 at *
  have HR := Lib.hid hr
  go_enter Try.func90, Try.ntmps90
  go_wp2_with (at_builtin; refine wpList_appr rfl (.tmp 4) (.tmp 5) rfl rfl rfl (by first | exact HR.out | (rw [hz]; exact HR.out)) ?_)
  go_ret
  exact ⟨_, rfl, hp, hb⟩
set_option maxRecDepth 100000 in
set_option maxHeartbeats 1000000 in
theorem hsaid_any (nm s : ByteArray) (w : World) (hnm : nm.size ≤ maxLen) (hs : s.size ≤ 1000000) : Calls Try.prog 71 #[.string nm, .string s] w fun e w' => ∃ v, e = .returned v ∧ PrP (nm, strB s ++ [0]) w' v ∧ Below w.heap.size w w' := by
  have hcv := (conv_row (w.alloc (.cells #[.string ⟨#[]⟩, .slice none 0 0] 88)) s (by unfold maxLen; omega)).1
  rw [World.size_alloc] at hcv
  have hc0 := Blk.new w 88 #[.string ⟨#[]⟩, .slice none 0 0]
  have hb0 := bal (Below.refl w.heap.size w) (.cells #[.string ⟨#[]⟩, .slice none 0 0] 88)
  obtain ⟨A, c, w', hr, hp, hb⟩ := zero_row s hs (w.alloc (.cells #[.string ⟨#[]⟩, .slice none 0 0] 88)) 28
  have hz : (Lib.bytesWorld (w.alloc (.cells #[.string ⟨#[]⟩, .slice none 0 0] 88)) 5 s).heap.size = w.heap.size + 1 + 1 := (Lib.bytesWorld_size _ _ _).trans (by simp)
  generalize Lib.bytesWorld (w.alloc (.cells #[.string ⟨#[]⟩, .slice none 0 0] 88)) 5 s = w5 at *
  rw [World.size_alloc] at hr
  have HR := Lib.hid hr
  have hc1 := hc0.kept hb
  have hc2 := hc1.cell
  have hf2 := hc1.frozen
  obtain ⟨z1, z2, z3⟩ := named_prop (nm := nm) (Nat.le_refl _) hc1 hp hnm (strB0_ok s) (hb0.trans (hb.mono hb0.size))
  have cZ := z1.cell
  have HC := Lib.hid cZ
  clear hr cZ hc0 hb0 hb
  go_enter Try.func71, Try.ntmps71
  go_wp2_with (at_builtin; refine wpList_appr rfl (.tmp 7) (.tmp 8) rfl rfl rfl (by first | exact HR.out | (rw [hz]; exact HR.out)) ?_)
  have cZ := HC.out
  exact bodyPost_ret (v := .agg #[.string nm, .slice A (s.size + 1) c]) (by simp [results, Try.results71, go_sem, cZ]) rfl ⟨_, rfl, z2, z3⟩
set_option maxRecDepth 100000 in
set_option maxHeartbeats 1000000 in
theorem gsaid_any (nm s : ByteArray) (w : World) (hnm : nm.size ≤ maxLen) (hs : s.size ≤ 1000000) : Calls Try.prog 51 #[.string nm, .string s] w fun e w' => ∃ v, e = .returned v ∧ PrP (nm, strB s ++ [0]) w' v ∧ Below w.heap.size w w' := by
  have hc0 := Blk.new w 88 #[.string ⟨#[]⟩, .slice none 0 0]
  have HB := Lib.hid (bal (Below.refl w.heap.size w) (.cells #[.string ⟨#[]⟩, .slice none 0 0] 88))
  have HZ := Lib.hid (fun w => gzero_any s w hs)
  have HC0 := Lib.hid hc0
  clear hc0
  go_enter Try.func51, Try.ntmps51
  go_wp2_with (go_at_call 90; refine (HZ.out _).mono ?_; rintro e w1 ⟨v, rfl, hp, hb1⟩; obtain ⟨A, c, hv, _⟩ := id hp; generalize (strB s ++ [0]).length = n at hv; subst hv; have hc1 := HC0.out.kept hb1; have hc2 := hc1.cell; have hf2 := hc1.frozen)
  obtain ⟨z1, z2, z3⟩ := named_prop (nm := nm) (Nat.le_refl _) hc1 hp hnm (strB0_ok s) (HB.out.trans (hb1.mono HB.out.size))
  have cZ := z1.cell
  exact bodyPost_ret (v := .agg #[.string nm, .slice A n c]) (by simp [results, Try.results51, go_sem, cZ]) rfl ⟨_, rfl, z2, z3⟩
theorem hexF_len : ∀ (f n : Nat), (hexF f n).length ≤ f
  | 0, _ => by simp [hexF]
  | f + 1, n => by
    have := hexF_len f (n / 16)
    unfold hexF
    split <;> simp <;> omega
/-- A name with an address. -/
def atN (l : List Int) (n : Nat) : List Int := l ++ [64] ++ hexN n
theorem atN_len (l : List Int) (n : Nat) : (atN l n).length ≤ l.length + 17 := by
  have := hexF_len 16 n
  simp [atN, hexN]
  omega
set_option maxRecDepth 100000 in
set_option maxHeartbeats 1000000 in
theorem hnode_any (nm : ByteArray) (ps : List Pr) (v : Value) (w : World) (hnm : nm.size ≤ maxLen) {X : Nat → Prop} (hp : PsP X ps w v) : Calls Try.prog 70 #[.string nm, v] w fun e w' => ∃ x, e = .returned x ∧ x = .agg #[.string nm, v, .slice none 0 0] ∧ TrP X (.mk nm ps []) w' x ∧ Below w.heap.size w w' := by
  have HP := Lib.hid hp
  obtain ⟨A, c, f, rfl, hrow⟩ := hp
  have HB := Lib.hid (bal (Below.refl w.heap.size w) (.cells #[.string nm, .slice A ps.length c, .slice none 0 0] 25))
  have cZ := (Blk.new w 25 #[.string nm, .slice A ps.length c, .slice none 0 0]).cell
  clear hrow
  go_enter Try.func70, Try.ntmps70
  go_wp2
  exact bodyPost_ret (v := .agg #[.string nm, .slice A ps.length c, .slice none 0 0]) (by simp [results, Try.results70, go_sem, cZ]) rfl ⟨_, rfl, rfl, TrP.mk hnm ((PsV X ps).mono HP.out (Turn.of_below HB.out)) (TsP.nil 0 none (by simp [maxLen])), HB.out⟩
set_option maxRecDepth 100000 in
set_option maxHeartbeats 1000000 in
theorem hat_any (l : List Int) (n : Nat) (w : World) (hl : l.length ≤ 1000) (hn : n < 18446744073709551616) : Calls Try.prog 73 #[.string (strOfNums l), .int .u64 n] w fun e w' => e = .returned (.string (strOfNums (atN l n))) ∧ Below w.heap.size w w' := by
  have HX := Lib.hid (fun w => hex_any n hn w)
  have h64 : (⟨#[64]⟩ : ByteArray) = strOfNums [64] := by decide +kernel
  have hxl := hexF_len 16 n
  have q1 : ¬ 9223372036854775807 < (strOfNums l).size + (⟨#[64]⟩ : ByteArray).size := by rw [h64, strOfNums_size, strOfNums_size]; simp; omega
  have q2 : ¬ 9223372036854775807 < (strOfNums l).size + (⟨#[64]⟩ : ByteArray).size + (strOfNums (hexN n)).size := by rw [h64, strOfNums_size, strOfNums_size, strOfNums_size]; unfold hexN; simp; omega
  have H64 := Lib.hid h64
  clear h64
  go_enter Try.func73, Try.ntmps73
  go_wp2_with (go_at_call 91; refine (HX.out _).mono ?_; rintro e w1 ⟨rfl, hb1⟩)
  unfold atN
  rw [← strOfNums_app, ← strOfNums_app, ← H64.out]
  go_ret
  exact ⟨rfl, hb1⟩
set_option maxRecDepth 100000 in
set_option maxHeartbeats 1000000 in
theorem gnode_any (nm : ByteArray) (ps : List Pr) (v : Value) (w : World) (hnm : nm.size ≤ maxLen) {X : Nat → Prop} (hp : PsP X ps w v) : Calls Try.prog 49 #[.string nm, v] w fun e w' => ∃ x, e = .returned x ∧ x = .agg #[.string nm, v, .slice none 0 0] ∧ TrP X (.mk nm ps []) w' x ∧ Below w.heap.size w w' := by
  have HP := Lib.hid hp
  obtain ⟨A, c, f, rfl, hrow⟩ := hp
  have HB := Lib.hid (bal (Below.refl w.heap.size w) (.cells #[.string nm, .slice A ps.length c, .slice none 0 0] 25))
  have cZ := (Blk.new w 25 #[.string nm, .slice A ps.length c, .slice none 0 0]).cell
  clear hrow
  go_enter Try.func49, Try.ntmps49
  go_wp2
  exact bodyPost_ret (v := .agg #[.string nm, .slice A ps.length c, .slice none 0 0]) (by simp [results, Try.results49, go_sem, cZ]) rfl ⟨_, rfl, rfl, TrP.mk hnm ((PsV X ps).mono HP.out (Turn.of_below HB.out)) (TsP.nil 0 none (by simp [maxLen])), HB.out⟩
set_option maxRecDepth 100000 in
set_option maxHeartbeats 1000000 in
theorem gat_any (l : List Int) (n : Nat) (w : World) (hl : l.length ≤ 1000) (hn : n < 18446744073709551616) : Calls Try.prog 53 #[.string (strOfNums l), .int .u64 n] w fun e w' => e = .returned (.string (strOfNums (atN l n))) ∧ Below w.heap.size w w' := by
  have HX := Lib.hid (fun w => hex_any n hn w)
  have h64 : (⟨#[64]⟩ : ByteArray) = strOfNums [64] := by decide +kernel
  have hxl := hexF_len 16 n
  have q1 : ¬ 9223372036854775807 < (strOfNums l).size + (⟨#[64]⟩ : ByteArray).size := by rw [h64, strOfNums_size, strOfNums_size]; simp; omega
  have q2 : ¬ 9223372036854775807 < (strOfNums l).size + (⟨#[64]⟩ : ByteArray).size + (strOfNums (hexN n)).size := by rw [h64, strOfNums_size, strOfNums_size, strOfNums_size]; unfold hexN; simp; omega
  have H64 := Lib.hid h64
  clear h64
  go_enter Try.func53, Try.ntmps53
  go_wp2_with (go_at_call 91; refine (HX.out _).mono ?_; rintro e w1 ⟨rfl, hb1⟩)
  unfold atN
  rw [← strOfNums_app, ← strOfNums_app, ← H64.out]
  go_ret
  exact ⟨rfl, hb1⟩
end Go.Proofs.Ytnkpaockginooaa
