/- Chapter 3: the document's square root: walked. -/
import Derived.Test.YtjcklmhkdpbbdaaDoorShaV
namespace Go.Proofs.YtjcklmhkdpbbdaaDoor
set_option linter.unusedVariables false
set_option linter.unusedSimpArgs false
open Go.RowKit Go.Sort

theorem square_plain {x p a b aa m hi s : Nat} (ha : a = x % 4294967296) (hb : b = x / 4294967296) (haa : aa = a * a) (hm : m = 2 * (a * b)) (hs : s = aa + m % 4294967296 * 4294967296) (hhi : hi = b * b + m / 4294967296 + s / 18446744073709551616) :
    x ^ 2 ≤ p * 2 ^ 64 ↔ hi < p ∨ hi = p ∧ s % 18446744073709551616 = 0 := by
  have e : x ^ 2 = b * b * 18446744073709551616 + m * 4294967296 + aa := by
    have hx : x = b * 4294967296 + a := by omega
    rw [Nat.pow_two, hx, Lib.split_mul, haa, hm, Nat.mul_comm b a]
    omega
  rw [e]
  generalize b * b = bb at *
  omega
theorem nwrap_eq {a : Nat} {y : Int} (h : y = (a : Int)) (ha : a < 18446744073709551616) : IntKind.u64.wrap y = (a : Int) := by rw [h]; exact nwrap a ha
set_option maxRecDepth 100000 in
set_option maxHeartbeats 2000000 in
theorem square_any (x p : Nat) (hx : x < 137438953472) (hp : p ≤ 311) (w : World) :
    Calls Tryd.prog 66 #[.int .u64 x, .int .u64 p] w fun e w' => e = .returned (.bool (decide (x ^ 2 ≤ p * 2 ^ 64))) ∧ w = w' := by
  obtain ⟨a, ha⟩ : ∃ a, a = x % 4294967296 := ⟨_, rfl⟩
  obtain ⟨b, hb⟩ : ∃ b, b = x / 4294967296 := ⟨_, rfl⟩
  obtain ⟨aa, haa⟩ : ∃ aa, aa = a * a := ⟨_, rfl⟩
  obtain ⟨bb, hbb⟩ : ∃ bb, bb = b * b := ⟨_, rfl⟩
  obtain ⟨ab, hab⟩ : ∃ ab, ab = a * b := ⟨_, rfl⟩
  obtain ⟨m, hm⟩ : ∃ m, m = 2 * ab := ⟨_, rfl⟩
  obtain ⟨ms, hms⟩ : ∃ ms, ms = m % 4294967296 * 4294967296 := ⟨_, rfl⟩
  obtain ⟨mh, hmh⟩ : ∃ mh, mh = m / 4294967296 := ⟨_, rfl⟩
  obtain ⟨ad, had⟩ : ∃ ad, ad = (aa + ms) % 18446744073709551616 := ⟨_, rfl⟩
  obtain ⟨h0, hh0⟩ : ∃ h0, h0 = bb + mh := ⟨_, rfl⟩
  obtain ⟨a2, ha2⟩ : ∃ a2, a2 = 2 * a := ⟨_, rfl⟩
  have HP := square_plain (p := p) (m := m) ha hb haa (by rw [hm, hab]) (s := aa + ms) (by rw [hms]) (hi := h0 + (aa + ms) / 18446744073709551616) (by rw [hh0, hbb, hmh])
  have baa : aa ≤ 4294967295 * 4294967295 := by rw [haa]; exact Nat.mul_le_mul (by omega) (by omega)
  have bbb : bb ≤ 31 * 31 := by rw [hbb]; exact Nat.mul_le_mul (by omega) (by omega)
  have bab : ab ≤ 4294967295 * 31 := by rw [hab]; exact Nat.mul_le_mul (by omega) (by omega)
  have f1 : bits .and .u64 (x : Int) 4294967295 = (a : Int) := by rw [low32 x (by omega), ha]
  have f2 : (x : Int) / 4294967296 = (b : Int) := by rw [high32, hb]
  have f3 : IntKind.u64.wrap ((a : Int) * (a : Int)) = (aa : Int) := nwrap_eq (by rw [nmul, haa]) (by omega)
  have f4 : IntKind.u64.wrap (2 * (a : Int)) = (a2 : Int) := nwrap_eq (by omega) (by omega)
  have f5 : IntKind.u64.wrap ((a2 : Int) * (b : Int)) = (m : Int) := nwrap_eq (by rw [nmul, ha2, hm, hab, Nat.mul_assoc]) (by omega)
  have f6 : IntKind.u64.wrap ((b : Int) * (b : Int)) = (bb : Int) := nwrap_eq (by rw [nmul, hbb]) (by omega)
  have f7 : (m : Int) / 4294967296 = (mh : Int) := by rw [high32, hmh]
  have f8 : IntKind.u64.wrap ((bb : Int) + (mh : Int)) = (h0 : Int) := nwrap_eq (by omega) (by omega)
  have f9 : IntKind.u64.wrap ((m : Int) * 4294967296) = (ms : Int) := by rw [IntKind.wrap_u64]; omega
  have f10 : IntKind.u64.wrap ((aa : Int) + (ms : Int)) = (ad : Int) := by rw [IntKind.wrap_u64]; omega
  have f11 : IntKind.u64.wrap ((h0 : Int) + 1) = ((h0 + 1 : Nat) : Int) := nwrap_eq (by omega) (by omega)
  obtain ⟨R, hR⟩ : ∃ R, decide (x ^ 2 ≤ p * 2 ^ 64) = R := ⟨_, rfl⟩
  rw [hR]
  have hcase : (ad < aa ∧ (R = true ↔ h0 + 1 < p ∨ h0 + 1 = p ∧ ad = 0)) ∨ (¬ ad < aa ∧ (R = true ↔ h0 < p ∨ h0 = p ∧ ad = 0)) := by
    by_cases hc : ad < aa
    · left; refine ⟨hc, ?_⟩
      rw [← hR, decide_eq_true_eq, HP, show (aa + ms) / 18446744073709551616 = 1 by omega, had]
    · right; refine ⟨hc, ?_⟩
      rw [← hR, decide_eq_true_eq, HP, show (aa + ms) / 18446744073709551616 = 0 by omega, had]; simp
  clear HP hR baa bbb bab ha hb haa hbb hab hm hms hmh had hh0 ha2 hx hp
  rcases hcase with ⟨hc, hr⟩ | ⟨hc, hr⟩
  case inl =>
    obtain ⟨h1, hh1⟩ : ∃ h1, h0 + 1 = h1 := ⟨_, rfl⟩
    rw [hh1] at hr f11
    clear hh1
    by_cases c1 : h1 < p
    · have HR := Lib.hid (show R = true from hr.2 (.inl c1))
      clear hr
      go_enter Tryd.func66, Tryd.ntmps66
      go_wp2
      go_ret
      exact ⟨by rw [HR.out]; rfl, rfl⟩
    · by_cases c2 : h1 = p
      · have c2' : ((h1 : Int) == (p : Int)) = true := by rw [beq_iff_eq]; omega
        by_cases c3 : ad = 0
        · have HR := Lib.hid (show R = true from hr.2 (.inr ⟨c2, c3⟩))
          have c3' : ((ad : Int) == 0) = true := by rw [beq_iff_eq]; omega
          clear hr c2 c3
          go_enter Tryd.func66, Tryd.ntmps66
          go_wp2
          go_ret
          exact ⟨by rw [HR.out]; rfl, rfl⟩
        · have HR := Lib.hid (show R = false by rw [Bool.eq_false_iff]; intro h; have := hr.1 h; omega)
          have c3' : ((ad : Int) == 0) = false := by rw [beq_eq_false_iff_ne]; omega
          clear hr c2 c3
          go_enter Tryd.func66, Tryd.ntmps66
          go_wp2
          go_ret
          exact ⟨by rw [HR.out]; rfl, rfl⟩
      · have HR := Lib.hid (show R = false by rw [Bool.eq_false_iff]; intro h; have := hr.1 h; omega)
        have c2' : ((h1 : Int) == (p : Int)) = false := by rw [beq_eq_false_iff_ne]; omega
        clear hr c2
        go_enter Tryd.func66, Tryd.ntmps66
        go_wp2
        go_ret
        exact ⟨by rw [HR.out]; rfl, rfl⟩
  case inr =>
    by_cases c1 : h0 < p
    · have HR := Lib.hid (show R = true from hr.2 (.inl c1))
      clear hr
      go_enter Tryd.func66, Tryd.ntmps66
      go_wp2
      go_ret
      exact ⟨by rw [HR.out]; rfl, rfl⟩
    · by_cases c2 : h0 = p
      · have c2' : ((h0 : Int) == (p : Int)) = true := by rw [beq_iff_eq]; omega
        by_cases c3 : ad = 0
        · have HR := Lib.hid (show R = true from hr.2 (.inr ⟨c2, c3⟩))
          have c3' : ((ad : Int) == 0) = true := by rw [beq_iff_eq]; omega
          clear hr c2 c3
          go_enter Tryd.func66, Tryd.ntmps66
          go_wp2
          go_ret
          exact ⟨by rw [HR.out]; rfl, rfl⟩
        · have HR := Lib.hid (show R = false by rw [Bool.eq_false_iff]; intro h; have := hr.1 h; omega)
          have c3' : ((ad : Int) == 0) = false := by rw [beq_eq_false_iff_ne]; omega
          clear hr c2 c3
          go_enter Tryd.func66, Tryd.ntmps66
          go_wp2
          go_ret
          exact ⟨by rw [HR.out]; rfl, rfl⟩
      · have HR := Lib.hid (show R = false by rw [Bool.eq_false_iff]; intro h; have := hr.1 h; omega)
        have c2' : ((h0 : Int) == (p : Int)) = false := by rw [beq_eq_false_iff_ne]; omega
        clear hr c2
        go_enter Tryd.func66, Tryd.ntmps66
        go_wp2
        go_ret
        exact ⟨by rw [HR.out]; rfl, rfl⟩
theorem info_a4 : (Tryd.prog.info? 114).map (fun i => (i.zero, i.size)) = some (some (.agg #[.int .u64 0, .int .u64 0, .int .u64 0, .int .u64 0]), 4) := by kernel_rfl
theorem info_a5 : (Tryd.prog.info? 115).map (fun i => (i.zero, i.size)) = some (some (.agg #[.int .u64 0, .int .u64 0, .int .u64 0, .int .u64 0, .int .u64 0]), 5) := by kernel_rfl
theorem cubexp (q0 q1 q2 a b : Nat) : (q0 + q1 * 4294967296 + q2 * 18446744073709551616) * (b * 4294967296 + a) = q0 * a + (q1 * a + q0 * b) * 4294967296 + (q2 * a + q1 * b) * 18446744073709551616 + q2 * b * 79228162514264337593543950336 := by
  grind
theorem sq_dig {x a b aa ab bb ah q0 abh al al2 q1r abh2 q2r q1h q1 q2 : Nat} (L_x : x = b * 4294967296 + a) (h_aa : aa = a * a) (h_ab : ab = a * b) (h_bb : bb = b * b) (L_aa : aa = ah * 4294967296 + q0) (L_ab : ab = abh * 4294967296 + al)
    (h_al2 : al2 = 2 * al) (h_q1r : q1r = ah + al2) (h_abh2 : abh2 = 2 * abh) (h_q2r : q2r = abh2 + bb) (L_q1r : q1r = q1h * 4294967296 + q1) (h_q2 : q2 = q2r + q1h) : x ^ 2 = q0 + q1 * 4294967296 + q2 * 18446744073709551616 := by
  have e : x ^ 2 = bb * 18446744073709551616 + 2 * ab * 4294967296 + aa := by
    rw [Nat.pow_two, L_x, Lib.split_mul, h_aa, h_ab, h_bb, Nat.mul_comm b a]
    omega
  rw [e]; omega
theorem cube_dig {X m0 m1 m2 n0 n1 n2 m0h m0l m1h m1l m2h m2l n0h n0l n1h n1l n2h n2l c1a c1 c2a c2b c2 c3a c3 z0 e1 e1h d1 e2 e2h d2 e3 e3h d3 e4 : Nat} (hx3 : X = m0 + (m1 + n0) * 4294967296 + (m2 + n1) * 18446744073709551616 + n2 * 79228162514264337593543950336)
    (L_m0 : m0 = m0h * 4294967296 + m0l) (L_m1 : m1 = m1h * 4294967296 + m1l) (L_m2 : m2 = m2h * 4294967296 + m2l) (L_n0 : n0 = n0h * 4294967296 + n0l) (L_n1 : n1 = n1h * 4294967296 + n1l) (L_n2 : n2 = n2h * 4294967296 + n2l)
    (h_c1a : c1a = m0h + n0l) (h_c1 : c1 = c1a + m1l) (h_c2a : c2a = n0h + m1h) (h_c2b : c2b = c2a + n1l) (h_c2 : c2 = c2b + m2l) (h_c3a : c3a = n1h + m2h) (h_c3 : c3 = c3a + n2l) (L_z : z0 = 0) (h_e1 : e1 = c1 + z0) (L_e1 : e1 = e1h * 4294967296 + d1)
    (h_e2 : e2 = c2 + e1h) (L_e2 : e2 = e2h * 4294967296 + d2) (h_e3 : e3 = c3 + e2h) (L_e3 : e3 = e3h * 4294967296 + d3) (h_e4 : e4 = n2h + e3h) :
    X = m0l + d1 * 4294967296 + d2 * 18446744073709551616 + d3 * 79228162514264337593543950336 + e4 * 340282366920938463463374607431768211456 := by
  subst hx3 L_m0 L_m1 L_m2 L_n0 L_n1 L_n2 h_c1a h_c2a h_c2b h_c3a L_z
  omega
theorem cube_le {X p d0 d1 d2 d3 e4 : Nat} (h : X = d0 + d1 * 4294967296 + d2 * 18446744073709551616 + d3 * 79228162514264337593543950336 + e4 * 340282366920938463463374607431768211456) (h0 : d0 ≤ 4294967295) (h1 : d1 ≤ 4294967295) (h2 : d2 ≤ 4294967295) (h3 : d3 ≤ 4294967295) (hp : p ≤ 311) :
    X ≤ p * 2 ^ 96 ↔ e4 = 0 ∧ (d3 < p ∨ d3 = p ∧ d0 = 0 ∧ d1 = 0 ∧ d2 = 0) := by omega
theorem and_eq {s t : Nat} (h : t = s % 4294967296) (hs : s < 18446744073709551616) : bits .and .u64 (s : Int) 4294967295 = (t : Int) := by rw [low32 s hs, h]
theorem and_self {s : Nat} (hs : s < 4294967296) : bits .and .u64 (s : Int) 4294967295 = (s : Int) := by rw [low32 s (by omega), Nat.mod_eq_of_lt hs]
theorem mul_eq {s t r : Nat} (h : r = s * t) (hr : r < 18446744073709551616) : IntKind.u64.wrap ((s : Int) * (t : Int)) = (r : Int) := nwrap_eq (by rw [nmul, h]) hr
theorem div_eq {s r : Nat} (h : r = s / 4294967296) : (s : Int) / 4294967296 = (r : Int) := by rw [high32, h]
theorem div_zero {s : Nat} (h : s < 4294967296) : (s : Int) / 4294967296 = 0 := by omega
theorem add_eq {s t r : Nat} (h : r = s + t) (hr : r < 18446744073709551616) : IntKind.u64.wrap ((s : Int) + (t : Int)) = (r : Int) := nwrap_eq (by rw [nadd, h]) hr
theorem two_eq {s r : Nat} (h : r = 2 * s) (hr : r < 18446744073709551616) : IntKind.u64.wrap (2 * (s : Int)) = (r : Int) := nwrap_eq (by omega) hr
set_option maxRecDepth 100000 in
set_option maxHeartbeats 8000000 in
theorem cube_any (x p : Nat) (hx : x < 34359738368) (hp : p ≤ 311) (w : World) :
    Calls Tryd.prog 67 #[.int .u64 x, .int .u64 p] w fun e w' => e = .returned (.bool (decide (x ^ 3 ≤ p * 2 ^ 96))) ∧ Below w.heap.size w w' := by
  have v_x : x ≤ 34359738367 := Nat.le_of_lt_succ hx
  obtain ⟨a, h_a⟩ : ∃ a, a = x % 4294967296 := ⟨_, rfl⟩
  have v_a : a ≤ 4294967295 := by rw [h_a]; exact Nat.le_of_lt_succ (Nat.mod_lt _ (by decide))
  have s_a : x = x / 4294967296 * 4294967296 + a := by rw [h_a, Nat.div_add_mod' x]
  obtain ⟨b, h_b⟩ : ∃ b, b = x / 4294967296 := ⟨_, rfl⟩
  have v_b : b ≤ 7 := by rw [h_b]; exact Nat.le_trans (Nat.div_le_div_right v_x) (by decide)
  obtain ⟨aa, h_aa⟩ : ∃ aa, aa = a * a := ⟨_, rfl⟩
  have v_aa : aa ≤ 18446744065119617025 := by rw [h_aa]; exact Nat.mul_le_mul v_a v_a
  obtain ⟨ab, h_ab⟩ : ∃ ab, ab = a * b := ⟨_, rfl⟩
  have v_ab : ab ≤ 30064771065 := by rw [h_ab]; exact Nat.mul_le_mul v_a v_b
  obtain ⟨bb, h_bb⟩ : ∃ bb, bb = b * b := ⟨_, rfl⟩
  have v_bb : bb ≤ 49 := by rw [h_bb]; exact Nat.mul_le_mul v_b v_b
  obtain ⟨q0, h_q0⟩ : ∃ q0, q0 = aa % 4294967296 := ⟨_, rfl⟩
  have v_q0 : q0 ≤ 4294967295 := by rw [h_q0]; exact Nat.le_of_lt_succ (Nat.mod_lt _ (by decide))
  have s_q0 : aa = aa / 4294967296 * 4294967296 + q0 := by rw [h_q0, Nat.div_add_mod' aa]
  obtain ⟨ah, h_ah⟩ : ∃ ah, ah = aa / 4294967296 := ⟨_, rfl⟩
  have v_ah : ah ≤ 4294967294 := by rw [h_ah]; exact Nat.le_trans (Nat.div_le_div_right v_aa) (by decide)
  obtain ⟨al, h_al⟩ : ∃ al, al = ab % 4294967296 := ⟨_, rfl⟩
  have v_al : al ≤ 4294967295 := by rw [h_al]; exact Nat.le_of_lt_succ (Nat.mod_lt _ (by decide))
  have s_al : ab = ab / 4294967296 * 4294967296 + al := by rw [h_al, Nat.div_add_mod' ab]
  obtain ⟨al2, h_al2⟩ : ∃ al2, al2 = 2 * al := ⟨_, rfl⟩
  have v_al2 : al2 ≤ 8589934590 := by rw [h_al2]; exact Nat.mul_le_mul_left 2 v_al
  obtain ⟨q1r, h_q1r⟩ : ∃ q1r, q1r = ah + al2 := ⟨_, rfl⟩
  have v_q1r : q1r ≤ 12884901884 := by rw [h_q1r]; exact Nat.add_le_add v_ah v_al2
  obtain ⟨abh, h_abh⟩ : ∃ abh, abh = ab / 4294967296 := ⟨_, rfl⟩
  have v_abh : abh ≤ 6 := by rw [h_abh]; exact Nat.le_trans (Nat.div_le_div_right v_ab) (by decide)
  obtain ⟨abh2, h_abh2⟩ : ∃ abh2, abh2 = 2 * abh := ⟨_, rfl⟩
  have v_abh2 : abh2 ≤ 12 := by rw [h_abh2]; exact Nat.mul_le_mul_left 2 v_abh
  obtain ⟨q2r, h_q2r⟩ : ∃ q2r, q2r = abh2 + bb := ⟨_, rfl⟩
  have v_q2r : q2r ≤ 61 := by rw [h_q2r]; exact Nat.add_le_add v_abh2 v_bb
  obtain ⟨q1h, h_q1h⟩ : ∃ q1h, q1h = q1r / 4294967296 := ⟨_, rfl⟩
  have v_q1h : q1h ≤ 2 := by rw [h_q1h]; exact Nat.le_trans (Nat.div_le_div_right v_q1r) (by decide)
  obtain ⟨q2, h_q2⟩ : ∃ q2, q2 = q2r + q1h := ⟨_, rfl⟩
  have v_q2 : q2 ≤ 63 := by rw [h_q2]; exact Nat.add_le_add v_q2r v_q1h
  obtain ⟨q1, h_q1⟩ : ∃ q1, q1 = q1r % 4294967296 := ⟨_, rfl⟩
  have v_q1 : q1 ≤ 4294967295 := by rw [h_q1]; exact Nat.le_of_lt_succ (Nat.mod_lt _ (by decide))
  have s_q1 : q1r = q1r / 4294967296 * 4294967296 + q1 := by rw [h_q1, Nat.div_add_mod' q1r]
  obtain ⟨m0, h_m0⟩ : ∃ m0, m0 = q0 * a := ⟨_, rfl⟩
  have v_m0 : m0 ≤ 18446744065119617025 := by rw [h_m0]; exact Nat.mul_le_mul v_q0 v_a
  obtain ⟨m0l, h_m0l⟩ : ∃ m0l, m0l = m0 % 4294967296 := ⟨_, rfl⟩
  have v_m0l : m0l ≤ 4294967295 := by rw [h_m0l]; exact Nat.le_of_lt_succ (Nat.mod_lt _ (by decide))
  have s_m0l : m0 = m0 / 4294967296 * 4294967296 + m0l := by rw [h_m0l, Nat.div_add_mod' m0]
  obtain ⟨m0h, h_m0h⟩ : ∃ m0h, m0h = m0 / 4294967296 := ⟨_, rfl⟩
  have v_m0h : m0h ≤ 4294967294 := by rw [h_m0h]; exact Nat.le_trans (Nat.div_le_div_right v_m0) (by decide)
  obtain ⟨n0, h_n0⟩ : ∃ n0, n0 = q0 * b := ⟨_, rfl⟩
  have v_n0 : n0 ≤ 30064771065 := by rw [h_n0]; exact Nat.mul_le_mul v_q0 v_b
  obtain ⟨n0l, h_n0l⟩ : ∃ n0l, n0l = n0 % 4294967296 := ⟨_, rfl⟩
  have v_n0l : n0l ≤ 4294967295 := by rw [h_n0l]; exact Nat.le_of_lt_succ (Nat.mod_lt _ (by decide))
  have s_n0l : n0 = n0 / 4294967296 * 4294967296 + n0l := by rw [h_n0l, Nat.div_add_mod' n0]
  obtain ⟨n0h, h_n0h⟩ : ∃ n0h, n0h = n0 / 4294967296 := ⟨_, rfl⟩
  have v_n0h : n0h ≤ 6 := by rw [h_n0h]; exact Nat.le_trans (Nat.div_le_div_right v_n0) (by decide)
  obtain ⟨m1, h_m1⟩ : ∃ m1, m1 = q1 * a := ⟨_, rfl⟩
  have v_m1 : m1 ≤ 18446744065119617025 := by rw [h_m1]; exact Nat.mul_le_mul v_q1 v_a
  obtain ⟨m1l, h_m1l⟩ : ∃ m1l, m1l = m1 % 4294967296 := ⟨_, rfl⟩
  have v_m1l : m1l ≤ 4294967295 := by rw [h_m1l]; exact Nat.le_of_lt_succ (Nat.mod_lt _ (by decide))
  have s_m1l : m1 = m1 / 4294967296 * 4294967296 + m1l := by rw [h_m1l, Nat.div_add_mod' m1]
  obtain ⟨m1h, h_m1h⟩ : ∃ m1h, m1h = m1 / 4294967296 := ⟨_, rfl⟩
  have v_m1h : m1h ≤ 4294967294 := by rw [h_m1h]; exact Nat.le_trans (Nat.div_le_div_right v_m1) (by decide)
  obtain ⟨n1, h_n1⟩ : ∃ n1, n1 = q1 * b := ⟨_, rfl⟩
  have v_n1 : n1 ≤ 30064771065 := by rw [h_n1]; exact Nat.mul_le_mul v_q1 v_b
  obtain ⟨n1l, h_n1l⟩ : ∃ n1l, n1l = n1 % 4294967296 := ⟨_, rfl⟩
  have v_n1l : n1l ≤ 4294967295 := by rw [h_n1l]; exact Nat.le_of_lt_succ (Nat.mod_lt _ (by decide))
  have s_n1l : n1 = n1 / 4294967296 * 4294967296 + n1l := by rw [h_n1l, Nat.div_add_mod' n1]
  obtain ⟨n1h, h_n1h⟩ : ∃ n1h, n1h = n1 / 4294967296 := ⟨_, rfl⟩
  have v_n1h : n1h ≤ 6 := by rw [h_n1h]; exact Nat.le_trans (Nat.div_le_div_right v_n1) (by decide)
  obtain ⟨m2, h_m2⟩ : ∃ m2, m2 = q2 * a := ⟨_, rfl⟩
  have v_m2 : m2 ≤ 270582939585 := by rw [h_m2]; exact Nat.mul_le_mul v_q2 v_a
  obtain ⟨m2l, h_m2l⟩ : ∃ m2l, m2l = m2 % 4294967296 := ⟨_, rfl⟩
  have v_m2l : m2l ≤ 4294967295 := by rw [h_m2l]; exact Nat.le_of_lt_succ (Nat.mod_lt _ (by decide))
  have s_m2l : m2 = m2 / 4294967296 * 4294967296 + m2l := by rw [h_m2l, Nat.div_add_mod' m2]
  obtain ⟨m2h, h_m2h⟩ : ∃ m2h, m2h = m2 / 4294967296 := ⟨_, rfl⟩
  have v_m2h : m2h ≤ 62 := by rw [h_m2h]; exact Nat.le_trans (Nat.div_le_div_right v_m2) (by decide)
  obtain ⟨n2, h_n2⟩ : ∃ n2, n2 = q2 * b := ⟨_, rfl⟩
  have v_n2 : n2 ≤ 441 := by rw [h_n2]; exact Nat.mul_le_mul v_q2 v_b
  obtain ⟨n2l, h_n2l⟩ : ∃ n2l, n2l = n2 % 4294967296 := ⟨_, rfl⟩
  have v_n2l : n2l ≤ 441 := by rw [h_n2l]; exact Nat.le_trans (Nat.mod_le _ _) v_n2
  have s_n2l : n2 = n2 / 4294967296 * 4294967296 + n2l := by rw [h_n2l, Nat.div_add_mod' n2]
  obtain ⟨n2h, h_n2h⟩ : ∃ n2h, n2h = n2 / 4294967296 := ⟨_, rfl⟩
  have v_n2h : n2h ≤ 0 := by rw [h_n2h]; exact Nat.le_trans (Nat.div_le_div_right v_n2) (by decide)
  obtain ⟨c1a, h_c1a⟩ : ∃ c1a, c1a = m0h + n0l := ⟨_, rfl⟩
  have v_c1a : c1a ≤ 8589934589 := by rw [h_c1a]; exact Nat.add_le_add v_m0h v_n0l
  obtain ⟨c1, h_c1⟩ : ∃ c1, c1 = c1a + m1l := ⟨_, rfl⟩
  have v_c1 : c1 ≤ 12884901884 := by rw [h_c1]; exact Nat.add_le_add v_c1a v_m1l
  obtain ⟨c2a, h_c2a⟩ : ∃ c2a, c2a = n0h + m1h := ⟨_, rfl⟩
  have v_c2a : c2a ≤ 4294967300 := by rw [h_c2a]; exact Nat.add_le_add v_n0h v_m1h
  obtain ⟨c2b, h_c2b⟩ : ∃ c2b, c2b = c2a + n1l := ⟨_, rfl⟩
  have v_c2b : c2b ≤ 8589934595 := by rw [h_c2b]; exact Nat.add_le_add v_c2a v_n1l
  obtain ⟨c2, h_c2⟩ : ∃ c2, c2 = c2b + m2l := ⟨_, rfl⟩
  have v_c2 : c2 ≤ 12884901890 := by rw [h_c2]; exact Nat.add_le_add v_c2b v_m2l
  obtain ⟨c3a, h_c3a⟩ : ∃ c3a, c3a = n1h + m2h := ⟨_, rfl⟩
  have v_c3a : c3a ≤ 68 := by rw [h_c3a]; exact Nat.add_le_add v_n1h v_m2h
  obtain ⟨c3, h_c3⟩ : ∃ c3, c3 = c3a + n2l := ⟨_, rfl⟩
  have v_c3 : c3 ≤ 509 := by rw [h_c3]; exact Nat.add_le_add v_c3a v_n2l
  obtain ⟨z0, h_z0⟩ : ∃ z0, z0 = m0l / 4294967296 := ⟨_, rfl⟩
  have v_z0 : z0 ≤ 0 := by rw [h_z0]; exact Nat.le_trans (Nat.div_le_div_right v_m0l) (by decide)
  obtain ⟨e1, h_e1⟩ : ∃ e1, e1 = c1 + z0 := ⟨_, rfl⟩
  have v_e1 : e1 ≤ 12884901884 := by rw [h_e1]; exact Nat.add_le_add v_c1 v_z0
  obtain ⟨e1h, h_e1h⟩ : ∃ e1h, e1h = e1 / 4294967296 := ⟨_, rfl⟩
  have v_e1h : e1h ≤ 2 := by rw [h_e1h]; exact Nat.le_trans (Nat.div_le_div_right v_e1) (by decide)
  obtain ⟨d1, h_d1⟩ : ∃ d1, d1 = e1 % 4294967296 := ⟨_, rfl⟩
  have v_d1 : d1 ≤ 4294967295 := by rw [h_d1]; exact Nat.le_of_lt_succ (Nat.mod_lt _ (by decide))
  have s_d1 : e1 = e1 / 4294967296 * 4294967296 + d1 := by rw [h_d1, Nat.div_add_mod' e1]
  obtain ⟨e2, h_e2⟩ : ∃ e2, e2 = c2 + e1h := ⟨_, rfl⟩
  have v_e2 : e2 ≤ 12884901892 := by rw [h_e2]; exact Nat.add_le_add v_c2 v_e1h
  obtain ⟨e2h, h_e2h⟩ : ∃ e2h, e2h = e2 / 4294967296 := ⟨_, rfl⟩
  have v_e2h : e2h ≤ 3 := by rw [h_e2h]; exact Nat.le_trans (Nat.div_le_div_right v_e2) (by decide)
  obtain ⟨d2, h_d2⟩ : ∃ d2, d2 = e2 % 4294967296 := ⟨_, rfl⟩
  have v_d2 : d2 ≤ 4294967295 := by rw [h_d2]; exact Nat.le_of_lt_succ (Nat.mod_lt _ (by decide))
  have s_d2 : e2 = e2 / 4294967296 * 4294967296 + d2 := by rw [h_d2, Nat.div_add_mod' e2]
  obtain ⟨e3, h_e3⟩ : ∃ e3, e3 = c3 + e2h := ⟨_, rfl⟩
  have v_e3 : e3 ≤ 512 := by rw [h_e3]; exact Nat.add_le_add v_c3 v_e2h
  obtain ⟨e3h, h_e3h⟩ : ∃ e3h, e3h = e3 / 4294967296 := ⟨_, rfl⟩
  have v_e3h : e3h ≤ 0 := by rw [h_e3h]; exact Nat.le_trans (Nat.div_le_div_right v_e3) (by decide)
  obtain ⟨d3, h_d3⟩ : ∃ d3, d3 = e3 % 4294967296 := ⟨_, rfl⟩
  have v_d3 : d3 ≤ 512 := by rw [h_d3]; exact Nat.le_trans (Nat.mod_le _ _) v_e3
  have s_d3 : e3 = e3 / 4294967296 * 4294967296 + d3 := by rw [h_d3, Nat.div_add_mod' e3]
  obtain ⟨e4, h_e4⟩ : ∃ e4, e4 = n2h + e3h := ⟨_, rfl⟩
  have v_e4 : e4 ≤ 0 := by rw [h_e4]; exact Nat.add_le_add v_n2h v_e3h
  have L_aa : aa = ah * 4294967296 + q0 := by rw [h_ah, h_q0, Nat.div_add_mod']
  have L_ab : ab = abh * 4294967296 + al := by rw [h_abh, h_al, Nat.div_add_mod']
  have L_q1r : q1r = q1h * 4294967296 + q1 := by rw [h_q1h, h_q1, Nat.div_add_mod']
  have L_m0 : m0 = m0h * 4294967296 + m0l := by rw [h_m0h, h_m0l, Nat.div_add_mod']
  have L_m1 : m1 = m1h * 4294967296 + m1l := by rw [h_m1h, h_m1l, Nat.div_add_mod']
  have L_m2 : m2 = m2h * 4294967296 + m2l := by rw [h_m2h, h_m2l, Nat.div_add_mod']
  have L_n0 : n0 = n0h * 4294967296 + n0l := by rw [h_n0h, h_n0l, Nat.div_add_mod']
  have L_n1 : n1 = n1h * 4294967296 + n1l := by rw [h_n1h, h_n1l, Nat.div_add_mod']
  have L_n2 : n2 = n2h * 4294967296 + n2l := by rw [h_n2h, h_n2l, Nat.div_add_mod']
  have L_e1 : e1 = e1h * 4294967296 + d1 := by rw [h_e1h, h_d1, Nat.div_add_mod']
  have L_e2 : e2 = e2h * 4294967296 + d2 := by rw [h_e2h, h_d2, Nat.div_add_mod']
  have L_e3 : e3 = e3h * 4294967296 + d3 := by rw [h_e3h, h_d3, Nat.div_add_mod']
  have L_x : x = b * 4294967296 + a := by rw [h_b, h_a, Nat.div_add_mod']
  have L_z : z0 = 0 := by rw [h_z0]; exact Nat.div_eq_of_lt (Nat.lt_of_le_of_lt v_m0l (by decide))
  have hx2 : x ^ 2 = q0 + q1 * 4294967296 + q2 * 18446744073709551616 := sq_dig L_x h_aa h_ab h_bb L_aa L_ab h_al2 h_q1r h_abh2 h_q2r L_q1r h_q2
  have hx3 : x ^ 3 = m0 + (m1 + n0) * 4294967296 + (m2 + n1) * 18446744073709551616 + n2 * 79228162514264337593543950336 := by
    rw [show x ^ 3 = x ^ 2 * x from rfl, hx2, h_m0, h_m1, h_m2, h_n0, h_n1, h_n2]
    rw [L_x]
    exact cubexp q0 q1 q2 a b
  have key := cube_dig hx3 L_m0 L_m1 L_m2 L_n0 L_n1 L_n2 h_c1a h_c1 h_c2a h_c2b h_c2 h_c3a h_c3 L_z h_e1 L_e1 h_e2 L_e2 h_e3 L_e3 h_e4
  have HK := Lib.hid (cube_le (p := p) key v_m0l v_d1 v_d2 (Nat.le_trans v_d3 (by decide)) hp)
  have f0 : bits .and .u64 (x : Int) 4294967295 = (a : Int) := and_eq h_a (Nat.lt_of_le_of_lt v_x (by decide))
  have f1 : (x : Int) / 4294967296 = (b : Int) := div_eq h_b
  have f2 : IntKind.u64.wrap ((a : Int) * (a : Int)) = (aa : Int) := mul_eq h_aa (Nat.lt_of_le_of_lt v_aa (by decide))
  have f3 : bits .and .u64 (aa : Int) 4294967295 = (q0 : Int) := and_eq h_q0 (Nat.lt_of_le_of_lt v_aa (by decide))
  have f4 : (aa : Int) / 4294967296 = (ah : Int) := div_eq h_ah
  have f5 : IntKind.u64.wrap ((a : Int) * (b : Int)) = (ab : Int) := mul_eq h_ab (Nat.lt_of_le_of_lt v_ab (by decide))
  have f6 : bits .and .u64 (ab : Int) 4294967295 = (al : Int) := and_eq h_al (Nat.lt_of_le_of_lt v_ab (by decide))
  have f7 : IntKind.u64.wrap (2 * (al : Int)) = (al2 : Int) := two_eq h_al2 (Nat.lt_of_le_of_lt v_al2 (by decide))
  have f8 : IntKind.u64.wrap ((ah : Int) + (al2 : Int)) = (q1r : Int) := add_eq h_q1r (Nat.lt_of_le_of_lt v_q1r (by decide))
  have f9 : (ab : Int) / 4294967296 = (abh : Int) := div_eq h_abh
  have f10 : IntKind.u64.wrap (2 * (abh : Int)) = (abh2 : Int) := two_eq h_abh2 (Nat.lt_of_le_of_lt v_abh2 (by decide))
  have f11 : IntKind.u64.wrap ((b : Int) * (b : Int)) = (bb : Int) := mul_eq h_bb (Nat.lt_of_le_of_lt v_bb (by decide))
  have f12 : IntKind.u64.wrap ((abh2 : Int) + (bb : Int)) = (q2r : Int) := add_eq h_q2r (Nat.lt_of_le_of_lt v_q2r (by decide))
  have f13 : (q1r : Int) / 4294967296 = (q1h : Int) := div_eq h_q1h
  have f14 : IntKind.u64.wrap ((q2r : Int) + (q1h : Int)) = (q2 : Int) := add_eq h_q2 (Nat.lt_of_le_of_lt v_q2 (by decide))
  have f15 : bits .and .u64 (q1r : Int) 4294967295 = (q1 : Int) := and_eq h_q1 (Nat.lt_of_le_of_lt v_q1r (by decide))
  have f16 : (q2 : Int) / 4294967296 = 0 := div_zero (Nat.lt_of_le_of_lt v_q2 (by decide))
  have f17 : bits .and .u64 (q2 : Int) 4294967295 = (q2 : Int) := and_self (Nat.lt_of_le_of_lt v_q2 (by decide))
  have f18 : IntKind.u64.wrap ((q0 : Int) * (a : Int)) = (m0 : Int) := mul_eq h_m0 (Nat.lt_of_le_of_lt v_m0 (by decide))
  have f19 : bits .and .u64 (m0 : Int) 4294967295 = (m0l : Int) := and_eq h_m0l (Nat.lt_of_le_of_lt v_m0 (by decide))
  have f20 : (m0 : Int) / 4294967296 = (m0h : Int) := div_eq h_m0h
  have f21 : IntKind.u64.wrap ((q0 : Int) * (b : Int)) = (n0 : Int) := mul_eq h_n0 (Nat.lt_of_le_of_lt v_n0 (by decide))
  have f22 : bits .and .u64 (n0 : Int) 4294967295 = (n0l : Int) := and_eq h_n0l (Nat.lt_of_le_of_lt v_n0 (by decide))
  have f23 : (n0 : Int) / 4294967296 = (n0h : Int) := div_eq h_n0h
  have f24 : IntKind.u64.wrap ((q1 : Int) * (a : Int)) = (m1 : Int) := mul_eq h_m1 (Nat.lt_of_le_of_lt v_m1 (by decide))
  have f25 : bits .and .u64 (m1 : Int) 4294967295 = (m1l : Int) := and_eq h_m1l (Nat.lt_of_le_of_lt v_m1 (by decide))
  have f26 : (m1 : Int) / 4294967296 = (m1h : Int) := div_eq h_m1h
  have f27 : IntKind.u64.wrap ((q1 : Int) * (b : Int)) = (n1 : Int) := mul_eq h_n1 (Nat.lt_of_le_of_lt v_n1 (by decide))
  have f28 : bits .and .u64 (n1 : Int) 4294967295 = (n1l : Int) := and_eq h_n1l (Nat.lt_of_le_of_lt v_n1 (by decide))
  have f29 : (n1 : Int) / 4294967296 = (n1h : Int) := div_eq h_n1h
  have f30 : IntKind.u64.wrap ((q2 : Int) * (a : Int)) = (m2 : Int) := mul_eq h_m2 (Nat.lt_of_le_of_lt v_m2 (by decide))
  have f31 : bits .and .u64 (m2 : Int) 4294967295 = (m2l : Int) := and_eq h_m2l (Nat.lt_of_le_of_lt v_m2 (by decide))
  have f32 : (m2 : Int) / 4294967296 = (m2h : Int) := div_eq h_m2h
  have f33 : IntKind.u64.wrap ((q2 : Int) * (b : Int)) = (n2 : Int) := mul_eq h_n2 (Nat.lt_of_le_of_lt v_n2 (by decide))
  have f34 : bits .and .u64 (n2 : Int) 4294967295 = (n2l : Int) := and_eq h_n2l (Nat.lt_of_le_of_lt v_n2 (by decide))
  have f35 : (n2 : Int) / 4294967296 = (n2h : Int) := div_eq h_n2h
  have f36 : IntKind.u64.wrap (m0l : Int) = (m0l : Int) := nwrap m0l (Nat.lt_of_le_of_lt v_m0l (by decide))
  have f37 : IntKind.u64.wrap (m0h : Int) = (m0h : Int) := nwrap m0h (Nat.lt_of_le_of_lt v_m0h (by decide))
  have f38 : IntKind.u64.wrap (n0h : Int) = (n0h : Int) := nwrap n0h (Nat.lt_of_le_of_lt v_n0h (by decide))
  have f39 : IntKind.u64.wrap (n1h : Int) = (n1h : Int) := nwrap n1h (Nat.lt_of_le_of_lt v_n1h (by decide))
  have f40 : IntKind.u64.wrap (n2h : Int) = (n2h : Int) := nwrap n2h (Nat.lt_of_le_of_lt v_n2h (by decide))
  have f41 : IntKind.u64.wrap (c3 : Int) = (c3 : Int) := nwrap c3 (Nat.lt_of_le_of_lt v_c3 (by decide))
  have f42 : IntKind.u64.wrap ((m0h : Int) + (n0l : Int)) = (c1a : Int) := add_eq h_c1a (Nat.lt_of_le_of_lt v_c1a (by decide))
  have f43 : IntKind.u64.wrap ((c1a : Int) + (m1l : Int)) = (c1 : Int) := add_eq h_c1 (Nat.lt_of_le_of_lt v_c1 (by decide))
  have f44 : IntKind.u64.wrap ((n0h : Int) + (m1h : Int)) = (c2a : Int) := add_eq h_c2a (Nat.lt_of_le_of_lt v_c2a (by decide))
  have f45 : IntKind.u64.wrap ((c2a : Int) + (n1l : Int)) = (c2b : Int) := add_eq h_c2b (Nat.lt_of_le_of_lt v_c2b (by decide))
  have f46 : IntKind.u64.wrap ((c2b : Int) + (m2l : Int)) = (c2 : Int) := add_eq h_c2 (Nat.lt_of_le_of_lt v_c2 (by decide))
  have f47 : IntKind.u64.wrap ((n1h : Int) + (m2h : Int)) = (c3a : Int) := add_eq h_c3a (Nat.lt_of_le_of_lt v_c3a (by decide))
  have f48 : IntKind.u64.wrap ((c3a : Int) + (n2l : Int)) = (c3 : Int) := add_eq h_c3 (Nat.lt_of_le_of_lt v_c3 (by decide))
  have f49 : (m0l : Int) / 4294967296 = (z0 : Int) := div_eq h_z0
  have f50 : IntKind.u64.wrap ((c1 : Int) + (z0 : Int)) = (e1 : Int) := add_eq h_e1 (Nat.lt_of_le_of_lt v_e1 (by decide))
  have f51 : bits .and .u64 (m0l : Int) 4294967295 = (m0l : Int) := and_self (Nat.lt_of_le_of_lt v_m0l (by decide))
  have f52 : (e1 : Int) / 4294967296 = (e1h : Int) := div_eq h_e1h
  have f53 : bits .and .u64 (e1 : Int) 4294967295 = (d1 : Int) := and_eq h_d1 (Nat.lt_of_le_of_lt v_e1 (by decide))
  have f54 : IntKind.u64.wrap ((c2 : Int) + (e1h : Int)) = (e2 : Int) := add_eq h_e2 (Nat.lt_of_le_of_lt v_e2 (by decide))
  have f55 : (e2 : Int) / 4294967296 = (e2h : Int) := div_eq h_e2h
  have f56 : bits .and .u64 (e2 : Int) 4294967295 = (d2 : Int) := and_eq h_d2 (Nat.lt_of_le_of_lt v_e2 (by decide))
  have f57 : IntKind.u64.wrap ((c3 : Int) + (e2h : Int)) = (e3 : Int) := add_eq h_e3 (Nat.lt_of_le_of_lt v_e3 (by decide))
  have f58 : (e3 : Int) / 4294967296 = (e3h : Int) := div_eq h_e3h
  have f59 : bits .and .u64 (e3 : Int) 4294967295 = (d3 : Int) := and_eq h_d3 (Nat.lt_of_le_of_lt v_e3 (by decide))
  have f60 : IntKind.u64.wrap ((n2h : Int) + (e3h : Int)) = (e4 : Int) := add_eq h_e4 (Nat.lt_of_le_of_lt v_e4 (by decide))
  have fz : bits .and .u64 0 4294967295 = 0 := by decide +kernel
  have hz4 := (zero_of_info info_a4).1
  have hz5 := (zero_of_info info_a5).1
  clear h_a h_b h_aa h_ab h_bb h_q0 h_ah h_al h_al2 h_q1r h_abh h_abh2 h_q2r h_q1h h_q2 h_q1 h_m0 h_m0l h_m0h h_n0 h_n0l h_n0h h_m1 h_m1l h_m1h h_n1 h_n1l h_n1h h_m2 h_m2l h_m2h h_n2 h_n2l h_n2h h_c1a h_c1 h_c2a h_c2b h_c2 h_c3a h_c3 h_z0 h_e1 h_e1h h_d1 h_e2 h_e2h h_d2 h_e3 h_e3h h_d3 h_e4 v_a v_b v_aa v_ab v_bb v_q0 v_ah v_al v_al2 v_q1r v_abh v_abh2 v_q2r v_q1h v_q2 v_q1 v_m0 v_m0l v_m0h v_n0 v_n0l v_n0h v_m1 v_m1l v_m1h v_n1 v_n1l v_n1h v_m2 v_m2l v_m2h v_n2 v_n2l v_n2h v_c1a v_c1 v_c2a v_c2b v_c2 v_c3a v_c3 v_z0 v_e1 v_e1h v_d1 v_e2 v_e2h v_d2 v_e3 v_e3h v_d3 v_e4 s_a s_q0 s_al s_q1 s_m0l s_n0l s_m1l s_n1l s_m2l s_n2l s_d1 s_d2 s_d3 L_aa L_ab L_q1r L_m0 L_m1 L_m2 L_n0 L_n1 L_n2 L_e1 L_e2 L_e3 L_x L_z hx2 hx3 key v_x
  obtain ⟨R, hR⟩ : ∃ R, decide (x ^ 3 ≤ p * 2 ^ 96) = R := ⟨_, rfl⟩
  rw [hR]
  have HR := Lib.hid (show R = true ↔ e4 = 0 ∧ (d3 < p ∨ d3 = p ∧ m0l = 0 ∧ d1 = 0 ∧ d2 = 0) by rw [← hR, decide_eq_true_eq]; exact HK.out)
  clear hR HK hx hp
  go_enter Tryd.func67, Tryd.ntmps67
  go_wp2
  refine wp_loop_rounds 5 ?_
  iterate 5
    rw [rounds_succ]
    go_wp2
  refine wp_loop_rounds 5 ?_
  iterate 4
    rw [rounds_succ]
    go_wp2
    go_region
    go_wp2
  rw [rounds_succ]
  go_upto_region 23 with (fail)
  by_cases x4 : e4 = 0
  · have y4 : ((e4 : Int) != 0) = false := by rw [bne_eq_false_iff_eq]; omega
    by_cases x3 : d3 < p
    · have z3 : ¬ p < d3 := by omega
      have HV := Lib.hid (show R = true from HR.out.2 ⟨x4, .inl x3⟩)
      clear HR
      go_wp2
      go_ret
      exact ⟨by rw [HV.out]; rfl, ((((((Below.refl w.heap.size w).alloc (Nat.le_refl _) _).alloc (by simp) _).drew).drew).drew).drew⟩
    · by_cases z3 : p < d3
      · have HV := Lib.hid (show R = false from by rw [Bool.eq_false_iff]; intro h; have := HR.out.1 h; omega)
        clear HR
        go_wp2
        go_ret
        exact ⟨by rw [HV.out]; rfl, ((((((Below.refl w.heap.size w).alloc (Nat.le_refl _) _).alloc (by simp) _).drew).drew).drew).drew⟩
      · by_cases w0 : m0l = 0
        · have w0' : ((m0l : Int) == 0) = true := by rw [beq_iff_eq]; omega
          by_cases w1 : d1 = 0
          · have w1' : ((d1 : Int) == 0) = true := by rw [beq_iff_eq]; omega
            by_cases w2 : d2 = 0
            · have w2' : ((d2 : Int) == 0) = true := by rw [beq_iff_eq]; omega
              have HV := Lib.hid (show R = true from HR.out.2 ⟨x4, .inr ⟨by omega, w0, w1, w2⟩⟩)
              clear HR
              go_wp2
              go_ret
              exact ⟨by rw [HV.out]; rfl, ((((((Below.refl w.heap.size w).alloc (Nat.le_refl _) _).alloc (by simp) _).drew).drew).drew).drew⟩
            · have w2' : ((d2 : Int) == 0) = false := by rw [beq_eq_false_iff_ne]; omega
              have HV := Lib.hid (show R = false from by rw [Bool.eq_false_iff]; intro h; have := HR.out.1 h; omega)
              clear HR
              go_wp2
              go_ret
              exact ⟨by rw [HV.out]; rfl, ((((((Below.refl w.heap.size w).alloc (Nat.le_refl _) _).alloc (by simp) _).drew).drew).drew).drew⟩
          · have w1' : ((d1 : Int) == 0) = false := by rw [beq_eq_false_iff_ne]; omega
            have HV := Lib.hid (show R = false from by rw [Bool.eq_false_iff]; intro h; have := HR.out.1 h; omega)
            clear HR
            go_wp2
            go_ret
            exact ⟨by rw [HV.out]; rfl, ((((((Below.refl w.heap.size w).alloc (Nat.le_refl _) _).alloc (by simp) _).drew).drew).drew).drew⟩
        · have w0' : ((m0l : Int) == 0) = false := by rw [beq_eq_false_iff_ne]; omega
          have HV := Lib.hid (show R = false from by rw [Bool.eq_false_iff]; intro h; have := HR.out.1 h; omega)
          clear HR
          go_wp2
          go_ret
          exact ⟨by rw [HV.out]; rfl, ((((((Below.refl w.heap.size w).alloc (Nat.le_refl _) _).alloc (by simp) _).drew).drew).drew).drew⟩
  · have y4 : ((e4 : Int) != 0) = true := by rw [bne_iff_ne]; omega
    have HV := Lib.hid (show R = false from by rw [Bool.eq_false_iff]; intro h; have := HR.out.1 h; omega)
    clear HR
    go_wp2
    go_ret
    exact ⟨by rw [HV.out]; rfl, ((((((Below.refl w.heap.size w).alloc (Nat.le_refl _) _).alloc (by simp) _).drew).drew).drew).drew⟩
end Go.Proofs.YtjcklmhkdpbbdaaDoor
