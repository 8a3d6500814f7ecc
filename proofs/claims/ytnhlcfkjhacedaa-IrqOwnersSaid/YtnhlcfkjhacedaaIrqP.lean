/- Chapter 22, routes as bytes: may a route be put; the program's and the document's. -/
import Derived.Test.YtnhlcfkjhacedaaIrqA
import Derived.Test.YtnhlcfkjhacedaaBytes
import Derived.Test.YtnhlcfkjhacedaaNear
namespace Go.Proofs.Ytnhlcfkjhacedaa
set_option linter.unusedVariables false
open Go.RowKit Go.Sort

def Rt.may (r : Rt) : Bool := if r.own = -1 then decide (r = mR) else decide (0 ≤ r.own ∧ r.own < 16 ∧ 0 ≤ r.cpu ∧ r.cpu < 32)
def edgeB (b : Bool) : Int := if b then 1 else 0
def Rt.bytes (r : Rt) : List Int := [r.own + 1, r.cpu, edgeB r.edge, 0]
def rBytes (l : List Rt) : List Int := l.flatMap Rt.bytes
def rputOk (l : List Rt) : Bool := decide (l.length ≤ 1020) && l.all Rt.may
theorem rBytes_len (l : List Rt) : (rBytes l).length = 4 * l.length := by
  unfold rBytes
  induction l with
  | nil => rfl
  | cons a l ih => simp only [List.flatMap_cons, List.length_append, ih, List.length_cons]; simp [Rt.bytes]; omega
theorem rBytes_snoc (l : List Rt) (r : Rt) : rBytes (l ++ [r]) = rBytes l ++ r.bytes := by simp [rBytes]
theorem may_own {r : Rt} (h : r.may = true) : (r = mR) ∨ (0 ≤ r.own ∧ r.own < 16 ∧ 0 ≤ r.cpu ∧ r.cpu < 32) := by
  unfold Rt.may at h
  split at h
  · exact .inl (by simpa using h)
  · exact .inr (by simpa using h)
theorem may_bytes {r : Rt} (h : r.may = true) : BytesOk r.bytes := by
  intro x hx
  have := may_own h
  simp only [Rt.bytes, edgeB, List.mem_cons, List.not_mem_nil, or_false] at hx
  rcases this with rfl | ⟨h1, h2, h3, h4⟩
  · rcases hx with rfl | rfl | rfl | rfl <;> simp [mR]
  · rcases hx with rfl | rfl | rfl | rfl
    · omega
    · omega
    · split <;> omega
    · omega
theorem rBytes_ok {l : List Rt} (h : l.all Rt.may = true) : BytesOk (rBytes l) := by
  intro x hx
  obtain ⟨r, hr, hx⟩ := List.mem_flatMap.1 hx
  exact may_bytes (List.all_eq_true.1 h r hr) x hx

set_option maxHeartbeats 1000000 in
theorem rmay_any (r : Rt) (w : World) :
    Calls Try.prog 43 #[.agg #[.int .i64 r.own, .int .i64 r.cpu, .bool r.edge]] w fun e w' => e = .returned (.bool r.may) ∧ Below w.heap.size w w' := by
  by_cases h1 : r.own = -1
  · have hm : r.may = decide (r = mR) := by rw [Rt.may, if_pos h1]
    have hq : ∀ w, (binOp .eql 58 (.agg #[.int .i64 r.own, .int .i64 r.cpu, .bool r.edge]) (.agg #[.int .i64 (-1), .int .i64 0, .bool false])).run Try.prog w = .ok (.bool r.may) w := fun w => by rw [hm]; exact route_eql w r mR
    generalize r.may = m at *
    obtain ⟨own, cpu, edge⟩ := r
    simp only at *
    subst h1
    clear hm
    go_enter Try.func43, Try.ntmps43
    go_wp2
    go_ret
    exact ⟨rfl, bal (Below.refl _ _) _⟩
  · have hm : r.may = decide (0 ≤ r.own ∧ r.own < 16 ∧ 0 ≤ r.cpu ∧ r.cpu < 32) := by rw [Rt.may, if_neg h1]
    obtain ⟨own, cpu, edge⟩ := r
    simp only at *
    have h1' : (own == -1) = false := by simpa using h1
    by_cases h : 0 ≤ own ∧ own < 16 ∧ 0 ≤ cpu ∧ cpu < 32
    · rw [decide_eq_true h] at hm
      rw [hm]
      obtain ⟨a, b, c, d⟩ := h
      clear hm h1
      go_enter Try.func43, Try.ntmps43
      go_wp2
      go_ret
      exact ⟨rfl, bal (Below.refl _ _) _⟩
    · rw [decide_eq_false h] at hm
      rw [hm]
      have hc : own < 0 ∨ (0 ≤ own ∧ 16 ≤ own) ∨ (0 ≤ own ∧ own < 16 ∧ cpu < 0) ∨ (0 ≤ own ∧ own < 16 ∧ 0 ≤ cpu ∧ 32 ≤ cpu) := by omega
      clear hm h1 h
      rcases hc with h | ⟨h, h'⟩ | ⟨h, h', h''⟩ | ⟨h, h', h'', h3⟩
      all_goals
        go_enter Try.func43, Try.ntmps43
        go_wp2
        go_ret
        first | exact ⟨rfl, bal (Below.refl _ _) _⟩ | exact ⟨by simp; omega, bal (Below.refl _ _) _⟩

/-- Routes as bytes, or refused. -/
def RputRes (l : List Rt) (n : Nat) (w : World) (e : Ending) (w' : World) : Prop :=
  (rputOk l = true ∧ (∃ A' c', e = .returned (.tuple #[.slice A' (4 * n) c', .int .i64 0]) ∧ w'.ownsRow w.heap.size 5 1 (.slice A' (4 * n) c') (4 * n) ((rBytes l).flatMap encB)) ∨ rputOk l = false ∧ e = .returned (.tuple #[.slice none 0 0, .int .i64 220])) ∧ Below w.heap.size w w'
theorem Rd.of_blk {w : World} {b : Nat} {t : TypeId} {cs : Array Value} (h : Blk w b t cs) {n : Nat} (hn : cs.size = n) : Rd w w.heap.size 1 (some ⟨b, 0, none⟩) n cs.toList :=
  ⟨by simpa using hn, fun _ => ⟨b, 0, rfl, h.lt, fun j u hu => by rw [Nat.zero_add, h.cell j]; simpa using hu⟩⟩

set_option maxRecDepth 100000 in
set_option maxHeartbeats 4000000 in
theorem rput_any (A : Option Addr) (n c : Nat) (l : List Rt) (w : World) (hl : l.length = n) (hn : n ≤ 1000000) (hr : Rd w w.heap.size 3 A n (l.flatMap encR)) :
    Calls Try.prog 26 #[.slice A n c] w (RputRes l n w) := by
  have HL := Lib.hid hl
  have HR := Lib.hid hr
  clear hl hr
  by_cases h256 : n ≤ 1020
  · have hmk := fun w => make_b0 w (4 * n) (by omega)
    have hcs : (madeCells (Value.int .u8 0).cells (4 * n * 1)).size = 4 * n := by rw [size_madeCells]; omega
    generalize madeCells (Value.int .u8 0).cells (4 * n * 1) = cur at *
    rw [show ((4 * n : Nat) : Int) = 4 * (n : Int) by omega] at hmk
    go_enter Try.func26, Try.ntmps26
    go_wp2
    have HO0 := Lib.hid (own_b0 w w.heap.size (4 * n) (by omega) (Nat.le_refl _) hcs)
    clear hmk hcs
    go_loopw [4, 17] (fun v i wr => ∃ k : Nat, k ≤ n ∧ i = .int .i64 k ∧ Hid ((l.take k).all Rt.may = true) ∧ ∃ A' c', v = .slice A' (4 * k) c' ∧ wr.ownsRow w.heap.size 5 1 (.slice A' (4 * k) c') (4 * k) ((rBytes (l.take k)).flatMap encB) ∧ Below w.heap.size w wr) (fun _ i _ => n - (intOf i).toNat)
    case atStart => exact ⟨0, by omega, rfl, Lib.hid rfl, _, _, rfl, HO0.out, bal (Below.refl _ _) _⟩
    case round =>
      obtain ⟨k, hk, rfl, hall, A', c', rfl, hown, hb⟩ := hrel
      clear HO0
      by_cases hlt : k < n
      · have hlt' : k < l.length := by rw [HL.out]; exact hlt
        obtain ⟨b, o, rfl, hbb, hc⟩ := (HR.out.below hb).row (fun _ => rfl) hlt' HL.out
        have d0 := hc 0 (by omega)
        have d1 := hc 1 (by omega)
        have d2 := hc 2 (by omega)
        simp only [encR, Nat.add_zero, List.getElem?_cons_zero, List.getElem?_cons_succ] at d0 d1 d2
        have HT := Lib.hid (List.take_succ_eq_append_getElem hlt')
        have HE := Lib.hid (List.getElem_mem hlt')
        clear hc
        generalize l[k] = r at *
        have hwr := hb.size
        have HY := Lib.hid (fun W => rmay_any r W)
        have hBr := Blk.new wr 58 #[.int .i64 r.own, .int .i64 r.cpu, .bool r.edge]
        cases hmay : r.may with
        | false =>
          have HNo : Hid (rputOk l = false) := Lib.hid (by
            have : l.all Rt.may = false := by rw [List.all_eq_false]; exact ⟨r, HE.out, by simp [hmay]⟩
            simp [rputOk, this])
          rw [hmay] at HY
          go_wp2_with (go_at_call 43; refine (HY.out _).mono ?_; rintro e w3 ⟨rfl, hb3⟩)
          go_ret2
          exact ⟨.inr ⟨HNo.out, rfl⟩, hb.trans ((below_alloc hb3).mono hb.size)⟩
        | true =>
          have HA : Hid ((l.take (k + 1)).all Rt.may = true) := Lib.hid (by rw [HT.out, List.all_append]; simp [hall.out, hmay])
          rw [hmay] at HY
          have hbx := may_bytes hmay
          have x0 := hbx (r.own + 1) (by simp [Rt.bytes])
          have x1 := hbx r.cpu (by simp [Rt.bytes])
          have w0 : IntKind.u8.wrap (r.own + 1) = r.own + 1 := by rw [IntKind.wrap_u8]; omega
          have w1 : IntKind.u8.wrap r.cpu = r.cpu := by rw [IntKind.wrap_u8]; omega
          have HB := Lib.hid (show r.bytes = [r.own + 1, r.cpu, edgeB r.edge, 0] from rfl)
          have HMx := Lib.hid (show 4 * k + 4 ≤ maxLen by unfold maxLen; omega)
          have HMy := Lib.hid (show (4 * k + 4) * 1 ≤ 140737488355328 by omega)
          clear hbx
          obtain ⟨own, cpu, edge⟩ := r
          simp only at *
          cases edge
          case false =>
            go_wp2_with (first
              | (go_at_call 43; refine (HY.out _).mono ?_; rintro e w3 ⟨rfl, hb3⟩; have hB3 := hBr.kept hb3; have cB3 := hB3.cell; have lB3 := hB3.lt; have hb4 := hb.trans ((below_alloc hb3).mono hb.size); have hown3 := own_kept (hown.alloc _) hb3)
              | (at_builtin; refine wpList_app u8_elem rfl (.tmp 35) (.tmp 36) rfl w.heap.size (hown3.alloc _) rfl rfl (Rd.of_blk (Blk.new w3 101 _) rfl) (by simp [Value.oneCell']) HMx.out HMy.out (by have := hb4.size; simp; omega) ?_; intro v5 w5 hown5 hb5 _; obtain ⟨A5, c5, rfl, _, _⟩ := own_slice hown5))
            go_roundw
            case rel =>
              refine ⟨k + 1, by omega, by go_num, HA.out, A5, c5, rfl, ?_, (bal' hb4 _ hb4.size).trans hb5⟩
              rw [HT.out, rBytes_snoc, List.flatMap_append]
              exact hown5
            case measure => simp [intOf]; omega
          case true =>
            go_wp2_with (first
              | (go_at_call 43; refine (HY.out _).mono ?_; rintro e w3 ⟨rfl, hb3⟩; have hB3 := hBr.kept hb3; have cB3 := hB3.cell; have lB3 := hB3.lt; have hb4 := hb.trans ((below_alloc hb3).mono hb.size); have hown3 := own_kept (hown.alloc _) hb3)
              | (at_builtin; refine wpList_app u8_elem rfl (.tmp 35) (.tmp 36) rfl w.heap.size (hown3.alloc _) rfl rfl (Rd.of_blk (Blk.new w3 101 _) rfl) (by simp [Value.oneCell']) HMx.out HMy.out (by have := hb4.size; simp; omega) ?_; intro v5 w5 hown5 hb5 _; obtain ⟨A5, c5, rfl, _, _⟩ := own_slice hown5))
            go_roundw
            case rel =>
              refine ⟨k + 1, by omega, by go_num, HA.out, A5, c5, rfl, ?_, (bal' hb4 _ hb4.size).trans hb5⟩
              rw [HT.out, rBytes_snoc, List.flatMap_append]
              exact hown5
            case measure => simp [intOf]; omega
      · obtain rfl : k = n := by omega
        rw [List.take_of_length_le (by rw [HL.out]; exact Nat.le_refl _)] at hown hall
        have HYes : Hid (rputOk l = true) := Lib.hid (by unfold rputOk; rw [hall.out, HL.out]; simpa using h256)
        go_wp2
        go_ret2
        exact ⟨.inl ⟨HYes.out, A', c', rfl, hown⟩, hb⟩
  · have HNo : Hid (rputOk l = false) := Lib.hid (by simp [rputOk, HL.out, h256])
    have h256' : 1020 < n := by omega
    clear h256
    go_enter Try.func26, Try.ntmps26
    go_wp2
    go_ret2
    exact ⟨.inr ⟨HNo.out, rfl⟩, Below.refl _ _⟩
end Go.Proofs.Ytnhlcfkjhacedaa
