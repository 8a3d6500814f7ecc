/- Chapter 14: the parser's names; walked. -/
import Derived.Test.YtmhbpfclfffgkaaCfU
namespace Go.Proofs.Ytmhbpfclfffgkaa
set_option linter.unusedVariables false
set_option linter.unusedSimpArgs false
open Go.RowKit Go.Sort

theorem cutN_le (l : List Int) : (cutN l).length ≤ l.length := (List.takeWhile_sublist (p := fun x : Int => x != 0) (l := l)).length_le
theorem cutN_take (l : List Int) : l.take (cutN l).length = cutN l := txtL_take l
theorem strB_of {l : List Int} (h : BytesOk l) : strB (strOfNums l) = l := by
  unfold strB
  rw [show (strOfNums l).data.toList = l.map fun x => x.toNat.toUInt8 from strOfNums_data l, List.map_map]
  have : ∀ x ∈ l, ((fun b : UInt8 => (b.toNat : Int)) ∘ fun x : Int => x.toNat.toUInt8) x = x := fun x hx => by
    have := h x hx
    simp [Nat.toUInt8, UInt8.toNat_ofNat']
    omega
  rw [List.map_congr_left this, List.map_id']
set_option maxRecDepth 100000 in
set_option maxHeartbeats 2000000 in
theorem nameP_any : PCall 96 (fun p => #[.pointer (some ⟨p.g, 0, none⟩)]) nameP (fun p B x v w => v = .string (strOfNums x) ∧ nameN x = true ∧ BytesOk x) := by
  intro p b B a w hR hB ha
  have hS := PSt.start hR hB ha
  have cB := hB.cell
  unfold Prs.cs at cB
  have H := Lib.hid ((take_any 16 (by decide) (by decide)).at (.take _) hS)
  clear hR hB ha hS
  go_enter Try.func96, Try.ntmps96
  go_upto_region 3 with (go_at_call 99; refine H.out.mono ?_; rintro e1 w1 ⟨hn1, ⟨a1, y1, h1, rfl, hN⟩ | ⟨l, a1, v, h1, rfl, ⟨A, c, rfl, hc, hcm, hl, hok, hr⟩, hS⟩⟩)
  case inl => exact ⟨rfl, hN, .inl ⟨_, _, by simp only [nameP, hereP, PR.bnd, h1], rfl⟩⟩
  clear H cB hn1
  obtain ⟨bA, oA, rfl, hbA⟩ : ∃ b o, A = some ⟨b, o, none⟩ ∧ b < B := by
    obtain ⟨b, o, h, hb, _⟩ := hr.2 (by decide)
    exact ⟨b, o, h, hb⟩
  have hBs : B ≤ w1.heap.size := by have := hS.rows.gB; have := hS.box.lt; omega
  have hr1 := hr.more hBs
  have HI := Lib.hid (index0_any _ 16 c l w1 hl (by decide) hr1)
  have HC := Lib.hid (contains0_any _ 16 c l w1 hl (by decide) hr1)
  have hq := cutN_le l
  have htk := cutN_take l
  have hNO : nameP b a = if nameOk l = true then .ok (cutN l, a1) else .error (a, 143) := by
    simp only [nameP, hereP, PR.bnd, h1, mustP, PR.ret]
    by_cases h : nameOk l = true
    · simp [h]
    · simp [h]
  change Hid (Calls _ _ _ _ (fun e w' => e = .returned (.int .i64 (if (cutN l).length < 16 then ((cutN l).length : Int) else -1)) ∧ _)) at HI
  have hrd : ∀ q, q ≤ 16 → Rd w1 w1.heap.size 1 (some ⟨bA, oA + q, none⟩) (16 - q) ((l.drop q).flatMap encB) := fun q hq => by
    have := Rd.sub hr1 hl (a := q) (m := 16 - q) (by omega)
    rwa [List.take_of_length_le (by rw [List.length_drop]; omega)] at this
  have hrt : ∀ q, q ≤ 16 → Rd w1 w1.heap.size 1 (some ⟨bA, oA, none⟩) q ((l.take q).flatMap encB) := fun q hq => by
    have := Rd.sub hr1 hl (a := 0) (m := q) (by omega)
    simpa using this
  have hos : strB (strOfNums (cutN l)) = cutN l := strB_of (fun x hx => hok x (by rw [← htk] at hx; exact List.mem_of_mem_take hx))
  have hokc : BytesOk (cutN l) := fun x hx => hok x (by rw [← htk] at hx; exact List.mem_of_mem_take hx)
  have HN := Lib.hid (name_any (strOfNums (cutN l)) w1 (by
    have : (strB (strOfNums (cutN l))).length = (cutN l).length := by rw [hos]
    rw [strB_len] at this
    omega))
  rw [hos] at HN
  have hS1 := hS
  have hq16 : (cutN l).length ≤ 16 := by omega
  have HX := fun (A' : Option Addr) (hA : 16 - (cutN l).length = 0 ∨ A' = some ⟨bA, oA + (cutN l).length, none⟩) => containsN_any A' (16 - (cutN l).length) (c - (cutN l).length) (l.drop (cutN l).length) w1 (by rw [List.length_drop]; omega) (by omega) (by
    rcases hA with h | rfl
    · exact ⟨(hrd _ hq16).1, fun hn => absurd hn (by omega)⟩
    · exact hrd _ hq16)
  have hs1 := conv_str (hrt _ hq16) (by rw [List.length_take]; omega) c
  rw [htk] at hs1
  have HS2 := Lib.hid (fun W (hW : Below w1.heap.size w1 W) => conv_str ((hrt _ hq16).below hW) (by rw [List.length_take]; omega) c)
  rw [htk] at HS2
  have hok2 : nameOk l = (nameN (cutN l) && (l.drop (cutN l).length).all fun x => x == 0) := rfl
  rw [hok2] at hNO
  have HNO := Lib.hid hNO
  have HOC := Lib.hid hokc
  clear hNO hok2 hrd hrt hr1 hr hos hokc htk hok h1 hS
  obtain ⟨y, hy⟩ : ∃ y, nameN (cutN l) = y := ⟨_, rfl⟩
  obtain ⟨x, hx⟩ : ∃ x, ((l.drop (cutN l).length).all fun x => x == 0) = x := ⟨_, rfl⟩
  rw [hy, hx] at HNO
  rw [hy] at HN
  rw [hx] at HX
  have HX := Lib.hid HX
  have HY := Lib.hid hy
  generalize cutN l = t at *
  generalize t.length = q at *
  clear hq hy hx
  by_cases h16 : q < 16
  · rw [if_pos h16] at HI
    rw [decide_eq_true h16] at HC
    have e1 : max (q : Int) 0 = (q : Int) := by omega
    have e2 : ¬ c = q := by omega
    have f1 : (0 : Int) ≤ (q : Int) := by omega
    have f2 : (q : Int) ≤ 16 := by omega
    have f3 : (q : Int) ≤ (c : Int) := by omega
    go_upto_region 6 with (first
      | (go_at_call 124; refine HI.out.mono ?_; rintro e1 w5 ⟨rfl, rfl⟩)
      | (go_at_call 125; refine HC.out.mono ?_; rintro e1 w5 ⟨rfl, rfl⟩))
    go_upto_region 7 with (go_at_call 126; refine (HX.out _ (.inr rfl)).mono ?_; rintro e1 w5 ⟨rfl, rfl⟩)
    cases y
    case false =>
      have hno := HNO.out
      go_wp2_with (first
        | (go_at_call 18; refine HN.out.mono ?_; rintro e1 w2 ⟨rfl, hb2⟩)
        | (go_at_call 42; refine (must_no _ _ _).mono ?_; rintro e w5 ⟨rfl, rfl⟩))
      exact ⟨rfl, (hS1.below hb2).near, .inl ⟨_, _, hno, rfl⟩⟩
    cases x
    case true.false =>
      have hno := HNO.out
      go_wp2_with (first
        | (go_at_call 18; refine HN.out.mono ?_; rintro e1 w2 ⟨rfl, hb2⟩)
        | (go_at_call 42; refine (must_no _ _ _).mono ?_; rintro e w5 ⟨rfl, rfl⟩))
      exact ⟨rfl, (hS1.below hb2).near, .inl ⟨_, _, hno, rfl⟩⟩
    have hyes := HNO.out
    go_wp2_with (first
      | (go_at_call 18; refine HN.out.mono ?_; rintro e1 w2 ⟨rfl, hb2⟩; clear hs1; have hs2 := HS2.out _ hb2)
      | (go_at_call 42; refine (must_yes _ _ _).mono ?_; rintro e w5 ⟨rfl, rfl⟩))
    go_ret
    exact ⟨(hS1.below hb2).near, .inr ⟨_, _, _, hyes, rfl, ⟨rfl, HY.out, HOC.out⟩, (hS1.below hb2).box⟩⟩
  · obtain rfl : q = 16 := by omega
    rw [if_neg h16] at HI
    rw [decide_eq_false h16] at HC
    have f3 : (16 : Int) ≤ (c : Int) := by omega
    have f4 : max (-1 : Int) 0 = 0 := by decide
    have e1 : (16 : Nat) - 16 = 0 := rfl
    by_cases hc16 : c = 16
    · subst hc16
      have HX3 : Hid (∀ A' : Option Addr, Calls Try.prog 126 #[.slice A' 0 0, .func (.func 127) #[] #[]] w1 fun e w' => e = .returned (.bool (!x)) ∧ w1 = w') := Lib.hid (fun A' => HX.out A' (.inl rfl))
      go_upto_region 6 with (first
        | (go_at_call 124; refine HI.out.mono ?_; rintro e1 w5 ⟨rfl, rfl⟩)
        | (go_at_call 125; refine HC.out.mono ?_; rintro e1 w5 ⟨rfl, rfl⟩))
      go_upto_region 7 with (go_at_call 126; refine (HX3.out _).mono ?_; rintro e1 w5 ⟨rfl, rfl⟩)
      cases y
      case false =>
        have hno := HNO.out
        go_wp2_with (first
          | (go_at_call 18; refine HN.out.mono ?_; rintro e1 w2 ⟨rfl, hb2⟩)
          | (go_at_call 42; refine (must_no _ _ _).mono ?_; rintro e w5 ⟨rfl, rfl⟩))
        exact ⟨rfl, (hS1.below hb2).near, .inl ⟨_, _, hno, rfl⟩⟩
      cases x
      case true.false =>
        have hno := HNO.out
        go_wp2_with (first
          | (go_at_call 18; refine HN.out.mono ?_; rintro e1 w2 ⟨rfl, hb2⟩)
          | (go_at_call 42; refine (must_no _ _ _).mono ?_; rintro e w5 ⟨rfl, rfl⟩))
        exact ⟨rfl, (hS1.below hb2).near, .inl ⟨_, _, hno, rfl⟩⟩
      have hyes := HNO.out
      go_wp2_with (first
        | (go_at_call 18; refine HN.out.mono ?_; rintro e1 w2 ⟨rfl, hb2⟩; clear hs1; have hs2 := HS2.out _ hb2)
        | (go_at_call 42; refine (must_yes _ _ _).mono ?_; rintro e w5 ⟨rfl, rfl⟩))
      go_ret
      exact ⟨(hS1.below hb2).near, .inr ⟨_, _, _, hyes, rfl, ⟨rfl, HY.out, HOC.out⟩, (hS1.below hb2).box⟩⟩
    · have HX3 : Hid (∀ A' : Option Addr, Calls Try.prog 126 #[.slice A' 0 (c - 16), .func (.func 127) #[] #[]] w1 fun e w' => e = .returned (.bool (!x)) ∧ w1 = w') := Lib.hid (fun A' => HX.out A' (.inl rfl))
      go_upto_region 6 with (first
        | (go_at_call 124; refine HI.out.mono ?_; rintro e1 w5 ⟨rfl, rfl⟩)
        | (go_at_call 125; refine HC.out.mono ?_; rintro e1 w5 ⟨rfl, rfl⟩))
      go_upto_region 7 with (go_at_call 126; refine (HX3.out _).mono ?_; rintro e1 w5 ⟨rfl, rfl⟩)
      cases y
      case false =>
        have hno := HNO.out
        go_wp2_with (first
          | (go_at_call 18; refine HN.out.mono ?_; rintro e1 w2 ⟨rfl, hb2⟩)
          | (go_at_call 42; refine (must_no _ _ _).mono ?_; rintro e w5 ⟨rfl, rfl⟩))
        exact ⟨rfl, (hS1.below hb2).near, .inl ⟨_, _, hno, rfl⟩⟩
      cases x
      case true.false =>
        have hno := HNO.out
        go_wp2_with (first
          | (go_at_call 18; refine HN.out.mono ?_; rintro e1 w2 ⟨rfl, hb2⟩)
          | (go_at_call 42; refine (must_no _ _ _).mono ?_; rintro e w5 ⟨rfl, rfl⟩))
        exact ⟨rfl, (hS1.below hb2).near, .inl ⟨_, _, hno, rfl⟩⟩
      have hyes := HNO.out
      go_wp2_with (first
        | (go_at_call 18; refine HN.out.mono ?_; rintro e1 w2 ⟨rfl, hb2⟩; clear hs1; have hs2 := HS2.out _ hb2)
        | (go_at_call 42; refine (must_yes _ _ _).mono ?_; rintro e w5 ⟨rfl, rfl⟩))
      go_ret
      exact ⟨(hS1.below hb2).near, .inr ⟨_, _, _, hyes, rfl, ⟨rfl, HY.out, HOC.out⟩, (hS1.below hb2).box⟩⟩
end Go.Proofs.Ytmhbpfclfffgkaa
