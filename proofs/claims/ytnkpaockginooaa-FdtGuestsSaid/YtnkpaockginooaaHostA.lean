/- Boards: whether one may be; the program's and the document's, walked. -/
import Derived.Test.YtnkpaockginooaaSpanA
import Derived.Deep.CutRange
namespace Go.Proofs.Ytnkpaockginooaa
set_option linter.unusedVariables false
set_option linter.unusedSimpArgs false
open Go.RowKit Go.Sort

/-- A board: its memory, the loader's, how many interrupts, streams and processors. -/
structure Bd where
  rb : Int
  rs : Int
  lb : Int
  ls : Int
  irqs : Int
  strs : Int
  cpus : Int
  deriving DecidableEq
def encBd (x : Bd) : List Value := [.int .u64 x.rb, .int .u64 x.rs, .int .u64 x.lb, .int .u64 x.ls, .int .i64 x.irqs, .int .i64 x.strs, .int .i64 x.cpus]
def I64 (x : Int) : Prop := -9223372036854775808 ≤ x ∧ x ≤ 9223372036854775807
structure BdOk (x : Bd) : Prop where
  rb : U64 x.rb
  rs : U64 x.rs
  lb : U64 x.lb
  ls : U64 x.ls
  irqs : I64 x.irqs
  strs : I64 x.strs
  cpus : I64 x.cpus
def inB (n lo hi : Int) : Bool := decide (lo ≤ n) && decide (n ≤ hi)
def fitB (x : Bd) : Bool := pagesB x.rb x.rs && pagesB x.lb x.ls && !decide (1099511627776 ≤ lastZ x.rb x.rs) && withinB x.lb x.ls x.rb x.rs && inB x.irqs 0 1020 && inB x.strs 0 256 && inB x.cpus 1 32
theorem within1_any (n lo hi : Int) (w : World) : Calls Try.prog 98 #[.int .i64 n, .int .i64 lo, .int .i64 hi] w fun e w' => e = .returned (.bool (inB n lo hi)) ∧ w = w' := by
  go_enter Try.func98, Try.ntmps98
  by_cases h : lo ≤ n
  · have e0 : decide (lo ≤ n) = true := by simpa using h
    go_wp2
    go_ret
    exact ⟨by simp [inB, h], rfl⟩
  · have e0 : decide (lo ≤ n) = false := by simpa using h
    go_wp2
    go_ret
    refine ⟨?_, rfl⟩
    have : inB n lo hi = false := by unfold inB; rw [e0]; rfl
    rw [this]
    rfl
set_option maxRecDepth 100000 in
set_option maxHeartbeats 2000000 in
theorem fit_any (x : Bd) (hx : BdOk x) (w : World) : Calls Try.prog 69 #[.agg (encBd x).toArray] w fun e w' => e = .returned (.int .i64 (if fitB x = true then 0 else 282)) ∧ Below w.heap.size w w' := by
  obtain ⟨rb, rs, lb, ls, n0, n1, n2⟩ := x
  obtain ⟨h1, h2, h3, h4, h5, h6, h7⟩ := hx
  simp only at h1 h2 h3 h4 h5 h6 h7
  obtain ⟨r, hr⟩ : ∃ r : Int, (if fitB ⟨rb, rs, lb, ls, n0, n1, n2⟩ = true then 0 else 282) = r := ⟨_, rfl⟩
  rw [hr, show (encBd ⟨rb, rs, lb, ls, n0, n1, n2⟩).toArray = #[.int .u64 rb, .int .u64 rs, .int .u64 lb, .int .u64 ls, .int .i64 n0, .int .i64 n1, .int .i64 n2] from rfl]
  unfold fitB at hr
  simp only at hr
  have HB := Lib.hid (bal (Below.refl w.heap.size w) (.cells #[.int .u64 rb, .int .u64 rs, .int .u64 lb, .int .u64 ls, .int .i64 n0, .int .i64 n1, .int .i64 n2] 39))
  have HK := Lib.hid (Blk.new w 39 #[.int .u64 rb, .int .u64 rs, .int .u64 lb, .int .u64 ls, .int .i64 n0, .int .i64 n1, .int .i64 n2])
  have HPg := Lib.hid (fun W A hr => pages_any A 2 rb rs lb ls h1 h2 h3 h4 W hr)
  have HLa := Lib.hid (fun W => last_any rb rs h1 h2 W)
  have HWi := Lib.hid (fun W => within_any lb ls rb rs h3 h4 h1 h2 W)
  have HIn := Lib.hid within1_any
  generalize (pagesB rb rs && pagesB lb ls) = p1 at *
  generalize hla : lastZ rb rs = la at *
  generalize withinB lb ls rb rs = wi at *
  generalize hi0 : inB n0 0 1020 = i0 at *
  generalize hi1 : inB n1 0 256 = i1 at *
  generalize hi2 : inB n2 1 32 = i2 at *
  have HI0 := Lib.hid (fun w => hi0 ▸ within1_any n0 0 1020 w)
  have HI1 := Lib.hid (fun w => hi1 ▸ within1_any n1 0 256 w)
  have HI2 := Lib.hid (fun w => hi2 ▸ within1_any n2 1 32 w)
  clear hla hi0 hi1 hi2
  obtain ⟨q, hq⟩ : ∃ q, decide (1099511627776 ≤ la) = q := ⟨_, rfl⟩
  rw [hq] at hr
  have HR := Lib.hid hr
  clear hr
  cases p1
  case false =>
    go_enter Try.func69, Try.ntmps69
    go_wp2_with (first
      | (go_at_call 99; refine (HPg.out _ _ (Rd.fresh _ _ _ 2 2 _ rfl)).mono ?_; rintro e w1 ⟨rfl, hb1⟩; have hB1 := HK.out.kept (ext_trans (bal (Below.refl _ _) _) hb1); have hc1 := hB1.cell; have HB1 := Lib.hid (HB.out.trans ((ext_trans (bal (Below.refl _ _) _) hb1).mono HB.out.size)); clear hb1)
      | (go_at_call 100; refine (HLa.out _).mono ?_; rintro e w2 ⟨rfl, hb1⟩; have hB2 := hB1.kept hb1; have hc2 := hB2.cell; have HB2 := Lib.hid (HB1.out.trans (hb1.mono HB1.out.size)); clear hb1)
      | (go_at_call 101; refine (HWi.out _).mono ?_; rintro e w3 ⟨rfl, hb1⟩; have hB3 := hB2.kept hb1; have hc3 := hB3.cell; have HB3 := Lib.hid (HB2.out.trans (hb1.mono HB2.out.size)); clear hb1)
      | (go_at_call 98; with_reducible refine (HI0.out _).mono ?_; rintro e w4 ⟨rfl, rfl⟩)
      | (go_at_call 98; with_reducible refine (HI1.out _).mono ?_; rintro e w4 ⟨rfl, rfl⟩)
      | (go_at_call 98; with_reducible refine (HI2.out _).mono ?_; rintro e w4 ⟨rfl, rfl⟩))
    go_ret
    exact ⟨by rw [← HR.out]; rfl, by first | exact HB3.out | exact HB2.out | exact HB1.out⟩
  case true =>
    cases q
    case true =>
      go_enter Try.func69, Try.ntmps69
      go_wp2_with (first
        | (go_at_call 99; refine (HPg.out _ _ (Rd.fresh _ _ _ 2 2 _ rfl)).mono ?_; rintro e w1 ⟨rfl, hb1⟩; have hB1 := HK.out.kept (ext_trans (bal (Below.refl _ _) _) hb1); have hc1 := hB1.cell; have HB1 := Lib.hid (HB.out.trans ((ext_trans (bal (Below.refl _ _) _) hb1).mono HB.out.size)); clear hb1)
        | (go_at_call 100; refine (HLa.out _).mono ?_; rintro e w2 ⟨rfl, hb1⟩; have hB2 := hB1.kept hb1; have hc2 := hB2.cell; have HB2 := Lib.hid (HB1.out.trans (hb1.mono HB1.out.size)); clear hb1)
        | (go_at_call 101; refine (HWi.out _).mono ?_; rintro e w3 ⟨rfl, hb1⟩; have hB3 := hB2.kept hb1; have hc3 := hB3.cell; have HB3 := Lib.hid (HB2.out.trans (hb1.mono HB2.out.size)); clear hb1)
        | (go_at_call 98; with_reducible refine (HI0.out _).mono ?_; rintro e w4 ⟨rfl, rfl⟩)
        | (go_at_call 98; with_reducible refine (HI1.out _).mono ?_; rintro e w4 ⟨rfl, rfl⟩)
        | (go_at_call 98; with_reducible refine (HI2.out _).mono ?_; rintro e w4 ⟨rfl, rfl⟩))
      go_ret
      exact ⟨by rw [← HR.out]; rfl, by first | exact HB3.out | exact HB2.out | exact HB1.out⟩
    case false =>
      cases wi
      case false =>
        go_enter Try.func69, Try.ntmps69
        go_wp2_with (first
          | (go_at_call 99; refine (HPg.out _ _ (Rd.fresh _ _ _ 2 2 _ rfl)).mono ?_; rintro e w1 ⟨rfl, hb1⟩; have hB1 := HK.out.kept (ext_trans (bal (Below.refl _ _) _) hb1); have hc1 := hB1.cell; have HB1 := Lib.hid (HB.out.trans ((ext_trans (bal (Below.refl _ _) _) hb1).mono HB.out.size)); clear hb1)
          | (go_at_call 100; refine (HLa.out _).mono ?_; rintro e w2 ⟨rfl, hb1⟩; have hB2 := hB1.kept hb1; have hc2 := hB2.cell; have HB2 := Lib.hid (HB1.out.trans (hb1.mono HB1.out.size)); clear hb1)
          | (go_at_call 101; refine (HWi.out _).mono ?_; rintro e w3 ⟨rfl, hb1⟩; have hB3 := hB2.kept hb1; have hc3 := hB3.cell; have HB3 := Lib.hid (HB2.out.trans (hb1.mono HB2.out.size)); clear hb1)
          | (go_at_call 98; with_reducible refine (HI0.out _).mono ?_; rintro e w4 ⟨rfl, rfl⟩)
          | (go_at_call 98; with_reducible refine (HI1.out _).mono ?_; rintro e w4 ⟨rfl, rfl⟩)
          | (go_at_call 98; with_reducible refine (HI2.out _).mono ?_; rintro e w4 ⟨rfl, rfl⟩))
        go_ret
        exact ⟨by rw [← HR.out]; rfl, by first | exact HB3.out | exact HB2.out | exact HB1.out⟩
      case true =>
        cases i0
        case false =>
          go_enter Try.func69, Try.ntmps69
          go_wp2_with (first
            | (go_at_call 99; refine (HPg.out _ _ (Rd.fresh _ _ _ 2 2 _ rfl)).mono ?_; rintro e w1 ⟨rfl, hb1⟩; have hB1 := HK.out.kept (ext_trans (bal (Below.refl _ _) _) hb1); have hc1 := hB1.cell; have HB1 := Lib.hid (HB.out.trans ((ext_trans (bal (Below.refl _ _) _) hb1).mono HB.out.size)); clear hb1)
            | (go_at_call 100; refine (HLa.out _).mono ?_; rintro e w2 ⟨rfl, hb1⟩; have hB2 := hB1.kept hb1; have hc2 := hB2.cell; have HB2 := Lib.hid (HB1.out.trans (hb1.mono HB1.out.size)); clear hb1)
            | (go_at_call 101; refine (HWi.out _).mono ?_; rintro e w3 ⟨rfl, hb1⟩; have hB3 := hB2.kept hb1; have hc3 := hB3.cell; have HB3 := Lib.hid (HB2.out.trans (hb1.mono HB2.out.size)); clear hb1)
            | (go_at_call 98; with_reducible refine (HI0.out _).mono ?_; rintro e w4 ⟨rfl, rfl⟩)
            | (go_at_call 98; with_reducible refine (HI1.out _).mono ?_; rintro e w4 ⟨rfl, rfl⟩)
            | (go_at_call 98; with_reducible refine (HI2.out _).mono ?_; rintro e w4 ⟨rfl, rfl⟩))
          go_ret
          exact ⟨by rw [← HR.out]; rfl, by first | exact HB3.out | exact HB2.out | exact HB1.out⟩
        case true =>
          cases i1
          case false =>
            go_enter Try.func69, Try.ntmps69
            go_wp2_with (first
              | (go_at_call 99; refine (HPg.out _ _ (Rd.fresh _ _ _ 2 2 _ rfl)).mono ?_; rintro e w1 ⟨rfl, hb1⟩; have hB1 := HK.out.kept (ext_trans (bal (Below.refl _ _) _) hb1); have hc1 := hB1.cell; have HB1 := Lib.hid (HB.out.trans ((ext_trans (bal (Below.refl _ _) _) hb1).mono HB.out.size)); clear hb1)
              | (go_at_call 100; refine (HLa.out _).mono ?_; rintro e w2 ⟨rfl, hb1⟩; have hB2 := hB1.kept hb1; have hc2 := hB2.cell; have HB2 := Lib.hid (HB1.out.trans (hb1.mono HB1.out.size)); clear hb1)
              | (go_at_call 101; refine (HWi.out _).mono ?_; rintro e w3 ⟨rfl, hb1⟩; have hB3 := hB2.kept hb1; have hc3 := hB3.cell; have HB3 := Lib.hid (HB2.out.trans (hb1.mono HB2.out.size)); clear hb1)
              | (go_at_call 98; with_reducible refine (HI0.out _).mono ?_; rintro e w4 ⟨rfl, rfl⟩)
              | (go_at_call 98; with_reducible refine (HI1.out _).mono ?_; rintro e w4 ⟨rfl, rfl⟩)
              | (go_at_call 98; with_reducible refine (HI2.out _).mono ?_; rintro e w4 ⟨rfl, rfl⟩))
            go_ret
            exact ⟨by rw [← HR.out]; rfl, by first | exact HB3.out | exact HB2.out | exact HB1.out⟩
          case true =>
            cases i2
            case false =>
              go_enter Try.func69, Try.ntmps69
              go_wp2_with (first
                | (go_at_call 99; refine (HPg.out _ _ (Rd.fresh _ _ _ 2 2 _ rfl)).mono ?_; rintro e w1 ⟨rfl, hb1⟩; have hB1 := HK.out.kept (ext_trans (bal (Below.refl _ _) _) hb1); have hc1 := hB1.cell; have HB1 := Lib.hid (HB.out.trans ((ext_trans (bal (Below.refl _ _) _) hb1).mono HB.out.size)); clear hb1)
                | (go_at_call 100; refine (HLa.out _).mono ?_; rintro e w2 ⟨rfl, hb1⟩; have hB2 := hB1.kept hb1; have hc2 := hB2.cell; have HB2 := Lib.hid (HB1.out.trans (hb1.mono HB1.out.size)); clear hb1)
                | (go_at_call 101; refine (HWi.out _).mono ?_; rintro e w3 ⟨rfl, hb1⟩; have hB3 := hB2.kept hb1; have hc3 := hB3.cell; have HB3 := Lib.hid (HB2.out.trans (hb1.mono HB2.out.size)); clear hb1)
                | (go_at_call 98; with_reducible refine (HI0.out _).mono ?_; rintro e w4 ⟨rfl, rfl⟩)
                | (go_at_call 98; with_reducible refine (HI1.out _).mono ?_; rintro e w4 ⟨rfl, rfl⟩)
                | (go_at_call 98; with_reducible refine (HI2.out _).mono ?_; rintro e w4 ⟨rfl, rfl⟩))
              go_ret
              exact ⟨by rw [← HR.out]; rfl, by first | exact HB3.out | exact HB2.out | exact HB1.out⟩
            case true =>
              go_enter Try.func69, Try.ntmps69
              go_wp2_with (first
                | (go_at_call 99; refine (HPg.out _ _ (Rd.fresh _ _ _ 2 2 _ rfl)).mono ?_; rintro e w1 ⟨rfl, hb1⟩; have hB1 := HK.out.kept (ext_trans (bal (Below.refl _ _) _) hb1); have hc1 := hB1.cell; have HB1 := Lib.hid (HB.out.trans ((ext_trans (bal (Below.refl _ _) _) hb1).mono HB.out.size)); clear hb1)
                | (go_at_call 100; refine (HLa.out _).mono ?_; rintro e w2 ⟨rfl, hb1⟩; have hB2 := hB1.kept hb1; have hc2 := hB2.cell; have HB2 := Lib.hid (HB1.out.trans (hb1.mono HB1.out.size)); clear hb1)
                | (go_at_call 101; refine (HWi.out _).mono ?_; rintro e w3 ⟨rfl, hb1⟩; have hB3 := hB2.kept hb1; have hc3 := hB3.cell; have HB3 := Lib.hid (HB2.out.trans (hb1.mono HB2.out.size)); clear hb1)
                | (go_at_call 98; with_reducible refine (HI0.out _).mono ?_; rintro e w4 ⟨rfl, rfl⟩)
                | (go_at_call 98; with_reducible refine (HI1.out _).mono ?_; rintro e w4 ⟨rfl, rfl⟩)
                | (go_at_call 98; with_reducible refine (HI2.out _).mono ?_; rintro e w4 ⟨rfl, rfl⟩))
              go_ret
              exact ⟨by rw [← HR.out]; rfl, by first | exact HB3.out | exact HB2.out | exact HB1.out⟩
theorem inB_yes {n lo hi : Int} (h : inB n lo hi = true) : lo ≤ n ∧ n ≤ hi := by
  unfold inB at h
  simpa using h
theorem inB_no {n lo hi : Int} (h : inB n lo hi = false) : n < lo ∨ (¬ n < lo ∧ hi < n) := by
  unfold inB at h
  simp at h
  by_cases h1 : n < lo
  · exact .inl h1
  · exact .inr ⟨h1, h (by omega)⟩
set_option maxRecDepth 100000 in
set_option maxHeartbeats 2000000 in
theorem refFit_any (x : Bd) (hx : BdOk x) (w : World) : Calls Try.prog 32 #[.agg (encBd x).toArray] w fun e w' => e = .returned (.int .i64 (if fitB x = true then 0 else 282)) ∧ Below w.heap.size w w' := by
  obtain ⟨rb, rs, lb, ls, n0, n1, n2⟩ := x
  obtain ⟨h1, h2, h3, h4, h5, h6, h7⟩ := hx
  simp only at h1 h2 h3 h4 h5 h6 h7
  obtain ⟨r, hr⟩ : ∃ r : Int, (if fitB ⟨rb, rs, lb, ls, n0, n1, n2⟩ = true then 0 else 282) = r := ⟨_, rfl⟩
  rw [hr, show (encBd ⟨rb, rs, lb, ls, n0, n1, n2⟩).toArray = #[.int .u64 rb, .int .u64 rs, .int .u64 lb, .int .u64 ls, .int .i64 n0, .int .i64 n1, .int .i64 n2] from rfl]
  unfold fitB at hr
  simp only at hr
  have HB := Lib.hid (bal (Below.refl w.heap.size w) (.cells #[.int .u64 rb, .int .u64 rs, .int .u64 lb, .int .u64 ls, .int .i64 n0, .int .i64 n1, .int .i64 n2] 39))
  have HK := Lib.hid (Blk.new w 39 #[.int .u64 rb, .int .u64 rs, .int .u64 lb, .int .u64 ls, .int .i64 n0, .int .i64 n1, .int .i64 n2])
  have HP1 := Lib.hid (fun W => refPages_any rb rs h1 h2 W)
  have HP2 := Lib.hid (fun W => refPages_any lb ls h3 h4 W)
  have HLa := Lib.hid (fun W => refLast_any rb rs h1 h2 W)
  have HWi := Lib.hid (fun W => refWithin_any lb ls rb rs h3 h4 h1 h2 W)
  generalize pagesB rb rs = p1 at *
  generalize pagesB lb ls = p2 at *
  generalize hla : lastZ rb rs = la at *
  generalize withinB lb ls rb rs = wi at *
  generalize hi0 : inB n0 0 1020 = i0 at *
  generalize hi1 : inB n1 0 256 = i1 at *
  generalize hi2 : inB n2 1 32 = i2 at *
  clear hla
  obtain ⟨q, hq⟩ : ∃ q, decide (1099511627776 ≤ la) = q := ⟨_, rfl⟩
  rw [hq] at hr
  have HR := Lib.hid hr
  clear hr h1 h2 h3 h4 h5 h6 h7
  cases p1
  case false =>
    go_enter Try.func32, Try.ntmps32
    go_wp2_with (first
      | (go_at_call 77; with_reducible refine (HP1.out _).mono ?_; rintro e w1 ⟨rfl, hb1⟩; have hB1 := HK.out.kept hb1; have hc1 := hB1.cell; have HB1 := Lib.hid (HB.out.trans (hb1.mono HB.out.size)); clear hb1)
      | (go_at_call 77; with_reducible refine (HP2.out _).mono ?_; rintro e w5 ⟨rfl, hb1⟩; have hB5 := hB1.kept hb1; have hc5 := hB5.cell; have HB5 := Lib.hid (HB1.out.trans (hb1.mono HB1.out.size)); clear hb1)
      | (go_at_call 78; refine (HLa.out _).mono ?_; rintro e w2 ⟨rfl, hb1⟩; have hB2 := hB5.kept hb1; have hc2 := hB2.cell; have HB2 := Lib.hid (HB5.out.trans (hb1.mono HB5.out.size)); clear hb1)
      | (go_at_call 79; refine (HWi.out _).mono ?_; rintro e w3 ⟨rfl, hb1⟩; have hB3 := hB2.kept hb1; have hc3 := hB3.cell; have HB3 := Lib.hid (HB2.out.trans (hb1.mono HB2.out.size)); clear hb1))
    go_ret
    exact ⟨by rw [← HR.out]; rfl, by first | exact HB3.out | exact HB2.out | exact HB5.out | exact HB1.out⟩
  cases p2
  case false =>
    go_enter Try.func32, Try.ntmps32
    go_wp2_with (first
      | (go_at_call 77; with_reducible refine (HP1.out _).mono ?_; rintro e w1 ⟨rfl, hb1⟩; have hB1 := HK.out.kept hb1; have hc1 := hB1.cell; have HB1 := Lib.hid (HB.out.trans (hb1.mono HB.out.size)); clear hb1)
      | (go_at_call 77; with_reducible refine (HP2.out _).mono ?_; rintro e w5 ⟨rfl, hb1⟩; have hB5 := hB1.kept hb1; have hc5 := hB5.cell; have HB5 := Lib.hid (HB1.out.trans (hb1.mono HB1.out.size)); clear hb1)
      | (go_at_call 78; refine (HLa.out _).mono ?_; rintro e w2 ⟨rfl, hb1⟩; have hB2 := hB5.kept hb1; have hc2 := hB2.cell; have HB2 := Lib.hid (HB5.out.trans (hb1.mono HB5.out.size)); clear hb1)
      | (go_at_call 79; refine (HWi.out _).mono ?_; rintro e w3 ⟨rfl, hb1⟩; have hB3 := hB2.kept hb1; have hc3 := hB3.cell; have HB3 := Lib.hid (HB2.out.trans (hb1.mono HB2.out.size)); clear hb1))
    go_ret
    exact ⟨by rw [← HR.out]; rfl, by first | exact HB3.out | exact HB2.out | exact HB5.out | exact HB1.out⟩
  cases q
  case true =>
    go_enter Try.func32, Try.ntmps32
    go_wp2_with (first
      | (go_at_call 77; with_reducible refine (HP1.out _).mono ?_; rintro e w1 ⟨rfl, hb1⟩; have hB1 := HK.out.kept hb1; have hc1 := hB1.cell; have HB1 := Lib.hid (HB.out.trans (hb1.mono HB.out.size)); clear hb1)
      | (go_at_call 77; with_reducible refine (HP2.out _).mono ?_; rintro e w5 ⟨rfl, hb1⟩; have hB5 := hB1.kept hb1; have hc5 := hB5.cell; have HB5 := Lib.hid (HB1.out.trans (hb1.mono HB1.out.size)); clear hb1)
      | (go_at_call 78; refine (HLa.out _).mono ?_; rintro e w2 ⟨rfl, hb1⟩; have hB2 := hB5.kept hb1; have hc2 := hB2.cell; have HB2 := Lib.hid (HB5.out.trans (hb1.mono HB5.out.size)); clear hb1)
      | (go_at_call 79; refine (HWi.out _).mono ?_; rintro e w3 ⟨rfl, hb1⟩; have hB3 := hB2.kept hb1; have hc3 := hB3.cell; have HB3 := Lib.hid (HB2.out.trans (hb1.mono HB2.out.size)); clear hb1))
    go_ret
    exact ⟨by rw [← HR.out]; rfl, by first | exact HB3.out | exact HB2.out | exact HB5.out | exact HB1.out⟩
  cases wi
  case false =>
    go_enter Try.func32, Try.ntmps32
    go_wp2_with (first
      | (go_at_call 77; with_reducible refine (HP1.out _).mono ?_; rintro e w1 ⟨rfl, hb1⟩; have hB1 := HK.out.kept hb1; have hc1 := hB1.cell; have HB1 := Lib.hid (HB.out.trans (hb1.mono HB.out.size)); clear hb1)
      | (go_at_call 77; with_reducible refine (HP2.out _).mono ?_; rintro e w5 ⟨rfl, hb1⟩; have hB5 := hB1.kept hb1; have hc5 := hB5.cell; have HB5 := Lib.hid (HB1.out.trans (hb1.mono HB1.out.size)); clear hb1)
      | (go_at_call 78; refine (HLa.out _).mono ?_; rintro e w2 ⟨rfl, hb1⟩; have hB2 := hB5.kept hb1; have hc2 := hB2.cell; have HB2 := Lib.hid (HB5.out.trans (hb1.mono HB5.out.size)); clear hb1)
      | (go_at_call 79; refine (HWi.out _).mono ?_; rintro e w3 ⟨rfl, hb1⟩; have hB3 := hB2.kept hb1; have hc3 := hB3.cell; have HB3 := Lib.hid (HB2.out.trans (hb1.mono HB2.out.size)); clear hb1))
    go_ret
    exact ⟨by rw [← HR.out]; rfl, by first | exact HB3.out | exact HB2.out | exact HB5.out | exact HB1.out⟩
  cases i0
  case false =>
    clear hi1 hi2
    rcases inB_no hi0 with h | ⟨h, h'⟩
    all_goals
      clear hi0
      go_enter Try.func32, Try.ntmps32
      go_wp2_with (first
        | (go_at_call 77; with_reducible refine (HP1.out _).mono ?_; rintro e w1 ⟨rfl, hb1⟩; have hB1 := HK.out.kept hb1; have hc1 := hB1.cell; have HB1 := Lib.hid (HB.out.trans (hb1.mono HB.out.size)); clear hb1)
        | (go_at_call 77; with_reducible refine (HP2.out _).mono ?_; rintro e w5 ⟨rfl, hb1⟩; have hB5 := hB1.kept hb1; have hc5 := hB5.cell; have HB5 := Lib.hid (HB1.out.trans (hb1.mono HB1.out.size)); clear hb1)
        | (go_at_call 78; refine (HLa.out _).mono ?_; rintro e w2 ⟨rfl, hb1⟩; have hB2 := hB5.kept hb1; have hc2 := hB2.cell; have HB2 := Lib.hid (HB5.out.trans (hb1.mono HB5.out.size)); clear hb1)
        | (go_at_call 79; refine (HWi.out _).mono ?_; rintro e w3 ⟨rfl, hb1⟩; have hB3 := hB2.kept hb1; have hc3 := hB3.cell; have HB3 := Lib.hid (HB2.out.trans (hb1.mono HB2.out.size)); clear hb1))
      go_ret
      exact ⟨by rw [← HR.out]; rfl, by first | exact HB3.out | exact HB2.out | exact HB5.out | exact HB1.out⟩
  have hi0 := inB_yes hi0
  cases i1
  case false =>
    clear hi2
    rcases inB_no hi1 with h | ⟨h, h'⟩
    all_goals
      clear hi1
      obtain ⟨k0, k1⟩ := hi0
      go_enter Try.func32, Try.ntmps32
      go_wp2_with (first
        | (go_at_call 77; with_reducible refine (HP1.out _).mono ?_; rintro e w1 ⟨rfl, hb1⟩; have hB1 := HK.out.kept hb1; have hc1 := hB1.cell; have HB1 := Lib.hid (HB.out.trans (hb1.mono HB.out.size)); clear hb1)
        | (go_at_call 77; with_reducible refine (HP2.out _).mono ?_; rintro e w5 ⟨rfl, hb1⟩; have hB5 := hB1.kept hb1; have hc5 := hB5.cell; have HB5 := Lib.hid (HB1.out.trans (hb1.mono HB1.out.size)); clear hb1)
        | (go_at_call 78; refine (HLa.out _).mono ?_; rintro e w2 ⟨rfl, hb1⟩; have hB2 := hB5.kept hb1; have hc2 := hB2.cell; have HB2 := Lib.hid (HB5.out.trans (hb1.mono HB5.out.size)); clear hb1)
        | (go_at_call 79; refine (HWi.out _).mono ?_; rintro e w3 ⟨rfl, hb1⟩; have hB3 := hB2.kept hb1; have hc3 := hB3.cell; have HB3 := Lib.hid (HB2.out.trans (hb1.mono HB2.out.size)); clear hb1))
      go_ret
      exact ⟨by rw [← HR.out]; rfl, by first | exact HB3.out | exact HB2.out | exact HB5.out | exact HB1.out⟩
  have hi1 := inB_yes hi1
  cases i2
  case false =>
    rcases inB_no hi2 with h | ⟨h, h'⟩
    all_goals
      clear hi2
      obtain ⟨k0, k1⟩ := hi0
      obtain ⟨k2, k3⟩ := hi1
      go_enter Try.func32, Try.ntmps32
      go_wp2_with (first
        | (go_at_call 77; with_reducible refine (HP1.out _).mono ?_; rintro e w1 ⟨rfl, hb1⟩; have hB1 := HK.out.kept hb1; have hc1 := hB1.cell; have HB1 := Lib.hid (HB.out.trans (hb1.mono HB.out.size)); clear hb1)
        | (go_at_call 77; with_reducible refine (HP2.out _).mono ?_; rintro e w5 ⟨rfl, hb1⟩; have hB5 := hB1.kept hb1; have hc5 := hB5.cell; have HB5 := Lib.hid (HB1.out.trans (hb1.mono HB1.out.size)); clear hb1)
        | (go_at_call 78; refine (HLa.out _).mono ?_; rintro e w2 ⟨rfl, hb1⟩; have hB2 := hB5.kept hb1; have hc2 := hB2.cell; have HB2 := Lib.hid (HB5.out.trans (hb1.mono HB5.out.size)); clear hb1)
        | (go_at_call 79; refine (HWi.out _).mono ?_; rintro e w3 ⟨rfl, hb1⟩; have hB3 := hB2.kept hb1; have hc3 := hB3.cell; have HB3 := Lib.hid (HB2.out.trans (hb1.mono HB2.out.size)); clear hb1))
      go_ret
      exact ⟨by rw [← HR.out]; rfl, by first | exact HB3.out | exact HB2.out | exact HB5.out | exact HB1.out⟩
  have hi2 := inB_yes hi2
  obtain ⟨k0, k1⟩ := hi0
  obtain ⟨k2, k3⟩ := hi1
  obtain ⟨k4, k5⟩ := hi2
  go_enter Try.func32, Try.ntmps32
  go_wp2_with (first
    | (go_at_call 77; with_reducible refine (HP1.out _).mono ?_; rintro e w1 ⟨rfl, hb1⟩; have hB1 := HK.out.kept hb1; have hc1 := hB1.cell; have HB1 := Lib.hid (HB.out.trans (hb1.mono HB.out.size)); clear hb1)
    | (go_at_call 77; with_reducible refine (HP2.out _).mono ?_; rintro e w5 ⟨rfl, hb1⟩; have hB5 := hB1.kept hb1; have hc5 := hB5.cell; have HB5 := Lib.hid (HB1.out.trans (hb1.mono HB1.out.size)); clear hb1)
    | (go_at_call 78; refine (HLa.out _).mono ?_; rintro e w2 ⟨rfl, hb1⟩; have hB2 := hB5.kept hb1; have hc2 := hB2.cell; have HB2 := Lib.hid (HB5.out.trans (hb1.mono HB5.out.size)); clear hb1)
    | (go_at_call 79; refine (HWi.out _).mono ?_; rintro e w3 ⟨rfl, hb1⟩; have hB3 := hB2.kept hb1; have hc3 := hB3.cell; have HB3 := Lib.hid (HB2.out.trans (hb1.mono HB2.out.size)); clear hb1))
  go_ret
  exact ⟨by rw [← HR.out]; rfl, by first | exact HB3.out | exact HB2.out | exact HB5.out | exact HB1.out⟩
end Go.Proofs.Ytnkpaockginooaa
