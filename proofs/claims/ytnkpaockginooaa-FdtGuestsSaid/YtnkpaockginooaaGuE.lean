/- The document's small makers: four, eight, zero, prop; walked. -/
import Derived.Test.YtnkpaockginooaaGuL
import Derived.Test.YtnkpaockginooaaRefW
namespace Go.Proofs.Ytnkpaockginooaa
set_option linter.unusedVariables false
set_option linter.unusedSimpArgs false
open Go.RowKit Go.Sort
theorem bytes4_wrap (x : Int) : bytesN 4 false (IntKind.u64.wrap x) = bytesN 4 false (IntKind.u32.wrap x) := by
  have h64 : IntKind.u64.wrap x = x % 18446744073709551616 := rfl
  have h32 : IntKind.u32.wrap x = x % 4294967296 := rfl
  rw [h64, h32]
  simp only [bytesN, byteN, List.range, List.range.loop, List.map_cons, List.map_nil, List.cons.injEq, and_true, Bool.false_eq_true, if_false, Nat.reduceSub, Nat.reduceMul]
  refine ⟨?_, ?_, ?_, ?_⟩ <;> omega
theorem catNameG (p : ByteArray) (l : List Int) (n : Nat) (h : p = strOfNums (l ++ [64])) : p ++ strOfNums (hexN n) = strOfNums (atN l n) := by
  rw [h, strOfNums_app]
  rfl
theorem catSizeG (k : Nat) (n : Nat) (h : k ≤ 1000) : ¬ 9223372036854775807 < k + (strOfNums (hexN n)).size := by
  have := hexF_len 16 n
  rw [strOfNums_size]
  unfold hexN
  omega
theorem nm_atM {l : List Int} {n : Nat} (h : l.length ≤ 100) : (strOfNums (atN l n)).size ≤ maxLen := by
  rw [strOfNums_size]
  have := atN_len l n
  unfold maxLen
  omega
theorem wrap_flat (x : Int) : [IntKind.u64.wrap x].flatMap (bytesN 4 false) = [IntKind.u32.wrap x].flatMap (bytesN 4 false) := by simp [bytes4_wrap]
theorem wrap64_in (x : Int) : 0 ≤ IntKind.u64.wrap x ∧ IntKind.u64.wrap x < 18446744073709551616 := by show 0 ≤ x % 18446744073709551616 ∧ x % 18446744073709551616 < 18446744073709551616; omega
section
variable {w : World} {X : Nat → Prop} {tb base : Nat} {nm : ByteArray} {ps : List Pr} {ks : List Tr} {vps vks : Value}
/-- .. and other properties stay, where a tree grows. -/
theorem TB.addps {t : Tr} {y : Value} {ps2 : List Pr} {vps2 : Value} {w' : World} {A : Option Addr} {c : Nat} (h : TB w X tb base nm ps ks vps vks) (hx : TsP (fun b => X b ∨ vks.ownBlock = some b) [t] w y) (hX : X tb) (hXb : ∀ b, X b → b < base) (hn : ks.length ≤ 1000000)
    (hr' : (Builtin.append_ #[23, 23] 23 #[vks, y]).run Try.prog w = .ok (.slice A (ks.length + 1) c) w') (hp : PsP X ps2 w vps2) : PsP X ps2 (w'.setCell ⟨tb, 2, none⟩ (.slice A (ks.length + 1) c)) vps2 := by
  have htb := hXb _ hX
  obtain ⟨v1, w1, A1, c1, hr, hK, hb, hg', hv⟩ := h.ks.app2 23 h.size hx hn
  rw [hr'] at hr
  simp only [Result.ok.injEq] at hr
  obtain ⟨_, rfl⟩ := hr
  obtain ⟨xs, ho, _⟩ := id h.ks
  have hT := h.box.same (hb.block tb htb)
  have hP : PsP X ps2 w' vps2 := ((hp.beside ho).turn (Same.grown (X := fun b => X b ∨ vks.ownBlock = some b) ho (by decide) (fun i hi => .inr hi) hg')).less fun b hb => .inl hb
  exact hP.turn (Same.set_in (X := X) hT (by decide) hX 2 _)
end
/-- Where a guest's processors are laid, beside the root. -/
structure GJ (w wr : World) (cfg : Array Value) (g : Gs × Gp) (X : Nat → Prop) (bz cz base : Nat) (ks : List Tr) (vroot vps vks : Value) : Prop where
  cfg : Blk wr w.heap.size 48 cfg
  res : Blk wr (w.heap.size + 1) 25 #[.string ⟨#[]⟩, .slice none 0 0, .slice none 0 0]
  gst : Blk wr (w.heap.size + 2) 104 (gcells g).toArray
  root : Blk wr bz 25 #[.string ⟨#[]⟩, vroot, .slice none 0 0]
  rps : PsP X (rootPs g.1) wr vroot
  tb : TB wr X cz base ⟨#[99, 112, 117, 115]⟩ cpuPs ks vps vks
  bel : Below w.heap.size w wr
section
variable {w wr w' : World} {cfg : Array Value} {g : Gs × Gp} {X : Nat → Prop} {bz cz base : Nat} {ks : List Tr} {vroot vps vks : Value}
theorem GJ.kept (h : GJ w wr cfg g X bz cz base ks vroot vps vks) (hb : Below wr.heap.size wr w') : GJ w w' cfg g X bz cz base ks vroot vps vks :=
  ⟨h.cfg.kept hb, h.res.kept hb, h.gst.kept hb, h.root.kept hb, h.rps.kept hb, h.tb.kept hb, h.bel.trans (hb.mono h.bel.size)⟩
theorem GJ.add {t : Tr} {y : Value} (h : GJ w wr cfg g X bz cz base ks vroot vps vks) (hx : TsP (fun b => X b ∨ vks.ownBlock = some b) [t] wr y) (hX : X cz) (hXb : ∀ b, X b → b < base) (hz : w.heap.size + 2 < bz) (hbz : bz < base) (hcz : w.heap.size + 2 < cz) (hne : bz ≠ cz) (hn : ks.length ≤ 1000000) :
    ∃ w' A c, (Builtin.append_ #[23, 23] 23 #[vks, y]).run Try.prog wr = .ok (.slice A (ks.length + 1) c) w' ∧ Blk w' cz 25 #[.string ⟨#[99, 112, 117, 115]⟩, vps, vks] ∧
      GJ w (w'.setCell ⟨cz, 2, none⟩ (.slice A (ks.length + 1) c)) cfg g X bz cz base (ks ++ [t]) vroot vps (.slice A (ks.length + 1) c) := by
  obtain ⟨w', A, c, hr, hT, hM, hb, hB, _⟩ := h.tb.add hx hX hXb hn
  have hP := h.tb.addps (vps2 := vroot) (ps2 := rootPs g.1) hx hX hXb hn hr h.rps
  exact ⟨w', A, c, hr, hT, hB _ _ _ (by omega) (by omega) h.cfg, hB _ _ _ (by omega) (by omega) h.res, hB _ _ _ (by omega) (by omega) h.gst, hB _ _ _ hbz hne h.root, hP, hM, h.bel.trans (hb.mono (by omega))⟩
theorem GJ.xl (h : GJ w wr cfg g X bz cz base ks vroot vps vks) (hXb : ∀ b, X b → b < base) : ∀ (w' : World), Below wr.heap.size wr w' → ∀ b, (X b ∨ vks.ownBlock = some b) → b < w'.heap.size := fun w' hb b hx => by
  have := hb.size
  have := h.tb.size
  rcases hx with hx | hx
  · have := hXb b hx; omega
  · have := (h.tb.ks.lt hx).2; omega
end
set_option maxRecDepth 100000 in
set_option maxHeartbeats 2000000 in
theorem fourR_any (A : Option Addr) (n c : Nat) (l : List Int) (w : World) (hl : l.length = n) (hn : n ≤ 1000000) (hx : ∀ y ∈ l, 0 ≤ y ∧ y < 18446744073709551616) (hr : Rd w w.heap.size 1 A n (l.flatMap encQ)) :
    Calls Try.prog 56 #[.slice A n c] w fun e w' => ∃ v, e = .returned v ∧ RowP 5 encB 1 (l.flatMap (bytesN 4 false)) w' v ∧ Below w.heap.size w w' := by
  have HL := Lib.hid hl
  have HX := Lib.hid hx
  have HR := Lib.hid hr
  clear hl hx hr
  go_enter Try.func56, Try.ntmps56
  go_wp2
  go_loopw [8, 3] (fun jv v wr => ∃ j : Nat, j ≤ n ∧ jv = .int .i64 j ∧ RowP 5 encB 1 ((l.take j).flatMap (bytesN 4 false)) wr v ∧ Below w.heap.size w wr) (fun jv _ _ => n - (intOf jv).toNat)
  case atStart => exact ⟨0, by omega, rfl, ⟨none, 0, rfl, by simp, by simp [maxLen], Rd.nil, fun h => absurd h (by simp)⟩, Below.refl _ _⟩
  case round =>
    obtain ⟨j, hj, rfl, hp, hb⟩ := hrel
    by_cases hlt : j < n
    · obtain ⟨y, hy⟩ : ∃ y, l[j]? = some y := ⟨_, List.getElem?_eq_getElem (by rw [HL.out]; exact hlt)⟩
      obtain ⟨b1, o1, hA1, hc1⟩ := row_cells (enc := encQ) (l := l) (w := w) (A := A) (s := 1) (by rw [HL.out]; exact HR.out) (fun _ => rfl) hy
      have hoy := HX.out y (List.mem_of_getElem? hy)
      have d0 := hc1 0 (by decide) _ hb
      simp only [encQ, List.getElem?_cons_zero, Nat.add_zero, Nat.mul_one] at d0
      have HY := Lib.hid hy
      obtain ⟨Av, cv, hv, hq1, hq2, hq3, _⟩ := hp
      obtain ⟨m, hm⟩ : ∃ m, ((l.take j).flatMap (bytesN 4 false)).length = m := ⟨_, rfl⟩
      have hml : m ≤ 8000000 := by
        rw [← hm, bytesNs_len]
        have h1 : (l.take j).length ≤ 1000000 := by rw [List.length_take]; omega
        have h2 : 4 * (l.take j).length ≤ 8 * 1000000 := Nat.mul_le_mul (by decide) h1
        omega
      rw [hm] at hv hq3
      subst hv
      subst hA1
      have e3 : decide ((j : Int) < (n : Int)) = true := decide_eq_true (by omega)
      have HP := Lib.hid (refPut_any Av m cv 4 ((l.take j).flatMap (bytesN 4 false)) y false wr hm (by omega) (by decide) hoy.1 hoy.2 hq3)
      clear hy hc1 hoy hq1 hq2 hq3 hm
      go_wp2_with (go_at_call 85; refine HP.out.mono ?_; rintro e w2 ⟨A1, c1, rfl, hown, hb2⟩)
      go_roundw
      case rel =>
        refine ⟨j + 1, by omega, by go_num, ?_, hb.trans (hb2.mono hb.size)⟩
        have ht : (l.take (j + 1)).flatMap (bytesN 4 false) = (l.take j).flatMap (bytesN 4 false) ++ bytesN 4 false y := by rw [List.take_add_one, HY.out, List.flatMap_append]; simp
        rw [ht]
        have hlen : m + 4 = ((l.take j).flatMap (bytesN 4 false) ++ bytesN 4 false y).length := (by
          have h0 := hown.1
          rw [flatB_len] at h0
          omega)
        exact RowP.own hown hlen rfl
      case measure => simp [intOf]; omega
    · obtain rfl : n = j := by omega
      rw [List.take_of_length_le (by rw [HL.out]; omega)] at hp
      have e3 : decide ((n : Int) < (n : Int)) = false := decide_eq_false (by omega)
      go_wp2
      go_ret
      exact ⟨_, rfl, hp, hb⟩
set_option maxRecDepth 100000 in
set_option maxHeartbeats 2000000 in
theorem eightR_any (A : Option Addr) (n c : Nat) (l : List Int) (w : World) (hl : l.length = n) (hn : n ≤ 1000000) (hx : ∀ y ∈ l, 0 ≤ y ∧ y < 18446744073709551616) (hr : Rd w w.heap.size 1 A n (l.flatMap encQ)) :
    Calls Try.prog 60 #[.slice A n c] w fun e w' => ∃ v, e = .returned v ∧ RowP 5 encB 1 (l.flatMap (bytesN 8 false)) w' v ∧ Below w.heap.size w w' := by
  have HL := Lib.hid hl
  have HX := Lib.hid hx
  have HR := Lib.hid hr
  clear hl hx hr
  go_enter Try.func60, Try.ntmps60
  go_wp2
  go_loopw [8, 3] (fun jv v wr => ∃ j : Nat, j ≤ n ∧ jv = .int .i64 j ∧ RowP 5 encB 1 ((l.take j).flatMap (bytesN 8 false)) wr v ∧ Below w.heap.size w wr) (fun jv _ _ => n - (intOf jv).toNat)
  case atStart => exact ⟨0, by omega, rfl, ⟨none, 0, rfl, by simp, by simp [maxLen], Rd.nil, fun h => absurd h (by simp)⟩, Below.refl _ _⟩
  case round =>
    obtain ⟨j, hj, rfl, hp, hb⟩ := hrel
    by_cases hlt : j < n
    · obtain ⟨y, hy⟩ : ∃ y, l[j]? = some y := ⟨_, List.getElem?_eq_getElem (by rw [HL.out]; exact hlt)⟩
      obtain ⟨b1, o1, hA1, hc1⟩ := row_cells (enc := encQ) (l := l) (w := w) (A := A) (s := 1) (by rw [HL.out]; exact HR.out) (fun _ => rfl) hy
      have hoy := HX.out y (List.mem_of_getElem? hy)
      have d0 := hc1 0 (by decide) _ hb
      simp only [encQ, List.getElem?_cons_zero, Nat.add_zero, Nat.mul_one] at d0
      have HY := Lib.hid hy
      obtain ⟨Av, cv, hv, hq1, hq2, hq3, _⟩ := hp
      obtain ⟨m, hm⟩ : ∃ m, ((l.take j).flatMap (bytesN 8 false)).length = m := ⟨_, rfl⟩
      have hml : m ≤ 8000000 := by
        rw [← hm, bytesNs_len]
        have h1 : (l.take j).length ≤ 1000000 := by rw [List.length_take]; omega
        have h2 : 8 * (l.take j).length ≤ 8 * 1000000 := Nat.mul_le_mul (by decide) h1
        omega
      rw [hm] at hv hq3
      subst hv
      subst hA1
      have e3 : decide ((j : Int) < (n : Int)) = true := decide_eq_true (by omega)
      have HP := Lib.hid (refPut_any Av m cv 8 ((l.take j).flatMap (bytesN 8 false)) y false wr hm (by omega) (by decide) hoy.1 hoy.2 hq3)
      clear hy hc1 hoy hq1 hq2 hq3 hm
      go_wp2_with (go_at_call 85; refine HP.out.mono ?_; rintro e w2 ⟨A1, c1, rfl, hown, hb2⟩)
      go_roundw
      case rel =>
        refine ⟨j + 1, by omega, by go_num, ?_, hb.trans (hb2.mono hb.size)⟩
        have ht : (l.take (j + 1)).flatMap (bytesN 8 false) = (l.take j).flatMap (bytesN 8 false) ++ bytesN 8 false y := by rw [List.take_add_one, HY.out, List.flatMap_append]; simp
        rw [ht]
        have hlen : m + 8 = ((l.take j).flatMap (bytesN 8 false) ++ bytesN 8 false y).length := (by
          have h0 := hown.1
          rw [flatB_len] at h0
          omega)
        exact RowP.own hown hlen rfl
      case measure => simp [intOf]; omega
    · obtain rfl : n = j := by omega
      rw [List.take_of_length_le (by rw [HL.out]; omega)] at hp
      have e3 : decide ((n : Int) < (n : Int)) = false := decide_eq_false (by omega)
      go_wp2
      go_ret
      exact ⟨_, rfl, hp, hb⟩
set_option maxRecDepth 100000 in
set_option maxHeartbeats 1000000 in
theorem propR_any (nm : ByteArray) (v : Value) (l : List Int) (w : World) (hnm : nm.size ≤ maxLen) (hok : BytesOk l) (h : RowP 5 encB 1 l w v) :
    Calls Try.prog 57 #[.string nm, v] w fun e w' => ∃ v', e = .returned v' ∧ PrP (nm, l) w' v' ∧ Below w.heap.size w w' := by
  obtain ⟨A, c, rfl, _⟩ := id h
  have HW := Lib.hid (fun o => h.kept (bal (Below.refl w.heap.size w) o))
  have HB := Lib.hid (fun o => bal (Below.refl w.heap.size w) o)
  generalize l.length = n at *
  have cZ := (Blk.new w 88 #[.string nm, .slice A n c]).cell
  clear h
  go_enter Try.func57, Try.ntmps57
  go_wp2
  exact bodyPost_ret (v := .agg #[.string nm, .slice A n c]) (by simp [results, Try.results57, go_sem, cZ]) rfl ⟨_, rfl, PrP.mk hnm hok (HW.out _), HB.out _⟩
set_option maxRecDepth 100000 in
set_option maxHeartbeats 1000000 in
theorem zeroR_any (s : ByteArray) (w : World) (hs : s.size ≤ 1000000) : Calls Try.prog 58 #[.string s] w fun e w' => ∃ v, e = .returned v ∧ RowP 5 encB 1 (strB s ++ [0]) w' v ∧ Below w.heap.size w w' := by
  have hcv := (conv_row w s (by unfold maxLen; omega)).1
  obtain ⟨A, c, w', hr, hp, hb⟩ := zero_row s hs w 28
  have hz : (Lib.bytesWorld w 5 s).heap.size = w.heap.size + 1 := Lib.bytesWorld_size _ _ _
  generalize Lib.bytesWorld w 5 s = w5 at *
  have HR := Lib.hid hr
  go_enter Try.func58, Try.ntmps58
  go_wp2_with (at_builtin; refine wpList_appr rfl (.tmp 4) (.tmp 5) rfl rfl rfl (by first | exact HR.out | (rw [hz]; exact HR.out)) ?_)
  go_ret
  exact ⟨_, rfl, hp, hb⟩
end Go.Proofs.Ytnkpaockginooaa
