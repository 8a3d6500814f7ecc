/- Chapter 27: a manifest, put as bytes: the plain law; the steps. -/
import Derived.Test.YtjjbpiejplfbpaaPolC
namespace Go.Proofs.Ytjjbpiejplfbpaa
set_option linter.unusedVariables false
open Go.RowKit Go.Sort

/-- A guest that started. -/
structure St where
  g : Int
  ver : Int
  vt : Int
  en : Int
  dt : Int
  cpus : Int
  deriving DecidableEq
def encSt (s : St) : List Value := [.int .i64 s.g, .int .u32 s.ver, .int .u64 s.vt, .int .u64 s.en, .int .u64 s.dt, .int .u32 s.cpus]
structure StOk (s : St) : Prop where
  ver : 0 ≤ s.ver ∧ s.ver < 4294967296
  vt : 0 ≤ s.vt ∧ s.vt < 18446744073709551616
  en : 0 ≤ s.en ∧ s.en < 18446744073709551616
  dt : 0 ≤ s.dt ∧ s.dt < 18446744073709551616
  cpus : 0 ≤ s.cpus ∧ s.cpus < 4294967296
def risesFrom : Int → List St → Bool
  | _, [] => true
  | last, s :: l => decide (last < s.g) && decide (s.g < 16) && risesFrom s.g l
def rises (l : List St) : Bool := risesFrom (-1) l

set_option maxHeartbeats 2000000 in
theorem rising_any (A : Option Addr) (n c : Nat) (l : List St) (w : World) (hl : l.length = n) (hn : n ≤ 1000000) (hr : Rd w w.heap.size 6 A n (l.flatMap encSt)) :
    Calls Try.prog 23 #[.slice A n c] w fun e w' => e = .returned (.bool (rises l)) ∧ Below w.heap.size w w' := by
  have HL := Lib.hid hl
  have HR := Lib.hid hr
  obtain ⟨R, hR⟩ : ∃ R, rises l = R := ⟨_, rfl⟩
  rw [hR]
  have HRes := Lib.hid hR
  clear hl hr hR
  go_enter Try.func23, Try.ntmps23
  go_wp2
  go_loopw [3, 8] (fun v i wr => ∃ k : Nat, k ≤ n ∧ i = .int .i64 k ∧ ∃ last : Int, v = .int .i64 last ∧ Hid (R = risesFrom last (l.drop k)) ∧ Below w.heap.size w wr) (fun _ i _ => n - (intOf i).toNat)
  case atStart => exact ⟨0, by omega, rfl, -1, rfl, Lib.hid HRes.out.symm, Below.refl _ _⟩
  case round =>
    obtain ⟨k, hk, rfl, last, rfl, hh, hb⟩ := hrel
    by_cases hlt : k < n
    · have hlt' : k < l.length := by rw [HL.out]; exact hlt
      obtain ⟨b, o, rfl, hbb, hc⟩ := (HR.out.below hb).row (fun _ => rfl) hlt' HL.out
      have d0 := hc 0 (by omega)
      have d1 := hc 1 (by omega)
      have d2 := hc 2 (by omega)
      have d3 := hc 3 (by omega)
      have d4 := hc 4 (by omega)
      have d5 := hc 5 (by omega)
      simp only [encSt, Nat.add_zero, List.getElem?_cons_zero, List.getElem?_cons_succ] at d0 d1 d2 d3 d4 d5
      have hd := List.drop_eq_getElem_cons hlt'
      have hs : R = (decide (last < (l[k]).g) && decide ((l[k]).g < 16) && risesFrom (l[k]).g (l.drop (k + 1))) := by rw [hh.out, hd]; rfl
      clear hc hd
      generalize l[k] = s at *
      by_cases h1 : s.g ≤ last
      · have HF := Lib.hid (show R = false by rw [hs, decide_eq_false (by omega)]; rfl)
        clear hs
        go_wp2
        go_ret
        exact ⟨by rw [HF.out]; rfl, bal hb _⟩
      · by_cases h2 : 16 ≤ s.g
        · have HF := Lib.hid (show R = false by rw [hs, decide_eq_false (show ¬ s.g < 16 by omega)]; simp)
          clear hs
          go_wp2
          go_ret
          exact ⟨by rw [HF.out]; rfl, bal hb _⟩
        · have HF := Lib.hid (show R = risesFrom s.g (l.drop (k + 1)) by rw [hs, decide_eq_true (show last < s.g by omega), decide_eq_true (show s.g < 16 by omega)]; rfl)
          clear hs
          go_wp2
          go_roundw
          case rel => exact ⟨k + 1, by omega, by go_num, s.g, rfl, HF, bal hb _⟩
          case measure => simp [intOf]; omega
    · obtain rfl : k = n := by omega
      have HF := Lib.hid (show R = true by rw [hh.out, List.drop_of_length_le (by rw [HL.out]; exact Nat.le_refl _)]; rfl)
      go_wp2
      go_ret
      exact ⟨by rw [HF.out]; rfl, hb⟩

/-- A manifest: its numbers, its registers' bytes, where its log and its guests lie, and these. -/
structure Mf where
  ver : Int
  vt : Int
  irq : Int
  str : Int
  fr : Int
  regs : List Int
  A : Option Addr
  n : Nat
  c : Nat
  log : List Rc
  A2 : Option Addr
  n2 : Nat
  c2 : Nat
  gs : List St
def Mf.cs (m : Mf) : List Value := .int .u32 m.ver :: .int .u64 m.vt :: .int .u64 m.irq :: .int .u64 m.str :: .int .i64 m.fr :: (m.regs.flatMap encB ++ [.slice m.A m.n m.c, .slice m.A2 m.n2 m.c2])
structure MfOk (w : World) (B : Nat) (m : Mf) : Prop where
  ver : 0 ≤ m.ver ∧ m.ver < 4294967296
  vt : 0 ≤ m.vt ∧ m.vt < 18446744073709551616
  irq : 0 ≤ m.irq ∧ m.irq < 18446744073709551616
  str : 0 ≤ m.str ∧ m.str < 18446744073709551616
  rl : m.regs.length = 64
  rb : BytesOk m.regs
  ll : m.log.length = m.n
  lo : RcsOk m.log
  lr : Rd w B 35 m.A m.n (m.log.flatMap Rc.cs)
  gl : m.gs.length = m.n2
  go : ∀ s ∈ m.gs, StOk s
  gr : Rd w B 6 m.A2 m.n2 (m.gs.flatMap encSt)
theorem MfOk.below {w w' : World} {B B' : Nat} {m : Mf} (h : MfOk w B m) (hb : Below B w w') (hB : B ≤ B') : MfOk w' B' m :=
  ⟨h.ver, h.vt, h.irq, h.str, h.rl, h.rb, h.ll, h.lo, (h.lr.below hb).more hB, h.gl, h.go, (h.gr.below hb).more hB⟩
theorem Mf.len {m : Mf} (h : m.regs.length = 64) : m.cs.length = 71 := by
  unfold Mf.cs
  have := flatB_len m.regs
  rw [h] at this
  simp [this]
theorem Mf.one (m : Mf) : ∀ u ∈ m.cs, u.oneCell' = true := by
  intro u hu
  unfold Mf.cs at hu
  simp only [List.mem_cons, List.mem_append, List.not_mem_nil, or_false] at hu
  rcases hu with rfl | rfl | rfl | rfl | rfl | hu | rfl | rfl
  all_goals first | rfl | exact one_b _ u hu
def stBytes (s : St) : List Int := bytesN 4 false (cut32 s.g) ++ bytesN 4 false s.ver ++ (bytesN 8 false s.vt ++ bytesN 8 false s.en ++ bytesN 8 false s.dt) ++ bytesN 4 false s.cpus
theorem stBytes_len (s : St) : (stBytes s).length = 36 := by simp [stBytes, bytesN_len]
def mHead (m : Mf) : List Int := (bytesN 4 false 1112359246 ++ bytesN 4 false m.ver) ++ (bytesN 8 false m.vt ++ bytesN 8 false m.irq ++ bytesN 8 false m.str) ++ bytesN 4 false (cut32 m.fr) ++ (m.regs ++ logBytes m.log)
def mBytes (m : Mf) : List Int := mHead m ++ bytesN 4 false m.gs.length ++ m.gs.flatMap stBytes
def mputOk (m : Mf) : Bool := lputOk m.log && decide (0 ≤ m.fr ∧ m.fr ≤ 2147483647) && rises m.gs
theorem mcell {w : World} {g : Nat} {t : TypeId} {m : Mf} (h : Blk w g t m.cs.toArray) : w.cell? ⟨g, 0, none⟩ = some (.int .u32 m.ver) ∧ w.cell? ⟨g, 1, none⟩ = some (.int .u64 m.vt) ∧ w.cell? ⟨g, 2, none⟩ = some (.int .u64 m.irq) ∧ w.cell? ⟨g, 3, none⟩ = some (.int .u64 m.str) ∧ w.cell? ⟨g, 4, none⟩ = some (.int .i64 m.fr) := by
  refine ⟨?_, ?_, ?_, ?_, ?_⟩
  · rw [h.cell 0]; simp [Mf.cs]
  · rw [h.cell 1]; simp [Mf.cs]
  · rw [h.cell 2]; simp [Mf.cs]
  · rw [h.cell 3]; simp [Mf.cs]
  · rw [h.cell 4]; simp [Mf.cs]
theorem mcellL {w : World} {g : Nat} {t : TypeId} {m : Mf} (hr : m.regs.length = 64) (h : Blk w g t m.cs.toArray) : w.cell? ⟨g, 69, none⟩ = some (.slice m.A m.n m.c) ∧ w.cell? ⟨g, 70, none⟩ = some (.slice m.A2 m.n2 m.c2) := by
  have hl := flatB_len m.regs
  rw [hr] at hl
  constructor
  · rw [h.cell 69]
    simp only [Mf.cs, List.getElem?_toArray, List.getElem?_cons_succ]
    rw [List.getElem?_append_right (by rw [hl]; decide), hl]; rfl
  · rw [h.cell 70]
    simp only [Mf.cs, List.getElem?_toArray, List.getElem?_cons_succ]
    rw [List.getElem?_append_right (by rw [hl]; decide), hl]; rfl
theorem mregs {w : World} {g : Nat} {t : TypeId} {m : Mf} (hr : m.regs.length = 64) (h : Blk w g t m.cs.toArray) : Rd w w.heap.size 1 (some ⟨g, 5, none⟩) 32 ((m.regs.take 32).flatMap encB) ∧ Rd w w.heap.size 1 (some ⟨g, 37, none⟩) 32 ((m.regs.drop 32).flatMap encB) := by
  have hl := flatB_len m.regs
  have hl1 := flatB_len (m.regs.take 32)
  have hl2 := flatB_len (m.regs.drop 32)
  rw [hr] at hl
  rw [List.length_take, hr] at hl1
  rw [List.length_drop, hr] at hl2
  have hsplit : m.regs.flatMap encB = (m.regs.take 32).flatMap encB ++ (m.regs.drop 32).flatMap encB := by rw [← List.flatMap_append, List.take_append_drop]
  have key : ∀ j, m.cs.toArray[5 + j]? = (m.regs.flatMap encB ++ [.slice m.A m.n m.c, .slice m.A2 m.n2 m.c2])[j]? := fun j => by
    rw [Nat.add_comm]
    simp [Mf.cs]
  refine ⟨⟨by rw [hl1]; rfl, fun _ => ⟨g, 5, rfl, h.lt, fun j u hu => ?_⟩⟩, ⟨by rw [hl2], fun _ => ⟨g, 37, rfl, h.lt, fun j u hu => ?_⟩⟩⟩
  · have hj := (List.getElem?_eq_some_iff.1 hu).1
    rw [h.cell (5 + j), key j, hsplit, List.append_assoc, List.getElem?_append_left hj]
    exact hu
  · have hj := (List.getElem?_eq_some_iff.1 hu).1
    rw [show 37 + j = 5 + (32 + j) by omega, h.cell (5 + (32 + j)), key (32 + j), hsplit, List.append_assoc, List.getElem?_append_right (by omega), List.getElem?_append_left (by omega), hl1, show 32 + j - min 32 64 = j by omega]
    exact hu

theorem flatBytes_len (s : Nat) (low : Bool) : ∀ l : List Int, (l.flatMap (bytesN s low)).length = l.length * s
  | [] => by simp
  | a :: l => by rw [List.flatMap_cons, List.length_append, bytesN_len, flatBytes_len s low l, List.length_cons, Nat.succ_mul]; omega
/-- The manifest's box, and the bytes so far in the writer's. -/
structure WrS (w0 : World) (gm gw : Nat) (m : Mf) (bs : List Int) (w : World) : Prop where
  mb : Blk w gm 55 m.cs.toArray
  wb : ∃ A c, Blk w gw 79 #[.slice A bs.length c] ∧ w.ownsRow w0.heap.size 5 1 (.slice A bs.length c) bs.length (bs.flatMap encB)
  bl : Below w0.heap.size w0 w
  gm : w0.heap.size ≤ gm
  gw : w0.heap.size ≤ gw
theorem WrS.alloc {w0 w : World} {gm gw : Nat} {m : Mf} {bs : List Int} (h : WrS w0 gm gw m bs w) (o : Obj) : WrS w0 gm gw m bs (w.alloc o) := by
  obtain ⟨A, c, hB, ho⟩ := h.wb
  exact ⟨h.mb.alloc o, ⟨A, c, hB.alloc o, ho.alloc o⟩, bal h.bl o, h.gm, h.gw⟩
theorem WrS.drew {w0 w : World} {gm gw : Nat} {m : Mf} {bs : List Int} (h : WrS w0 gm gw m bs w) : WrS w0 gm gw m bs w.drew := by
  obtain ⟨A, c, hB, ho⟩ := h.wb
  exact ⟨h.mb.drew, ⟨A, c, hB.drew, own_kept ho (Below.refl _ _).drew⟩, h.bl.drew, h.gm, h.gw⟩
theorem WrS.ne {w0 w : World} {gm gw : Nat} {m : Mf} {bs : List Int} (h : WrS w0 gm gw m bs w) : gm ≠ gw := by
  obtain ⟨A, c, hB, ho⟩ := h.wb
  exact Blk.ne_ h.mb hB (by decide)

theorem four_step {w0 w : World} {gm gw : Nat} {m : Mf} {bs : List Int} (h : WrS w0 gm gw m bs w) (A2 : Option Addr) (n2 c2 : Nat) (l : List Int) (hl2 : l.length = n2) (hm : bs.length ≤ 1000000) (hm2 : n2 ≤ 1000000) (hx : ∀ x ∈ l, 0 ≤ x ∧ x < 4294967296) (hr2 : Rd w w.heap.size 1 A2 n2 (l.flatMap encU32)) :
    Calls Try.prog 24 #[.pointer (some ⟨gw, 0, none⟩), .slice A2 n2 c2] w fun e w' => e = .returned (.tuple #[]) ∧ WrS w0 gm gw m (bs ++ l.flatMap (bytesN 4 false)) w' ∧ Near (fun i => i = gw) w w' := by
  have hne := h.ne
  have hmb := h.mb
  have hbl := h.bl
  have hg := h.gm
  have hgw := h.gw
  obtain ⟨A, c, hB, ho⟩ := h.wb
  refine (four_any gw _ A A2 bs.length c n2 c2 bs l w hB rfl hl2 (by omega) (by omega) hx (Rd.of_own ho) hr2).mono fun e w' hh => ?_
  obtain ⟨he, A', c', hB', ho', hn⟩ := hh
  have hL : (bs ++ l.flatMap (bytesN 4 false)).length = bs.length + 4 * n2 := by
    rw [List.length_append, flatBytes_len, hl2]; omega
  refine ⟨he, ⟨hmb.same (hn.block _ hmb.lt hne), ⟨A', c', by rw [hL]; exact hB', by rw [hL]; exact own_le_base ho' hbl.size⟩, ?_, hg, hgw⟩, hn⟩
  exact hbl.trans (hn.below (fun i hi => by omega) hbl.size)
theorem eight_step {w0 w : World} {gm gw : Nat} {m : Mf} {bs : List Int} (h : WrS w0 gm gw m bs w) (A2 : Option Addr) (n2 c2 : Nat) (l : List Int) (hl2 : l.length = n2) (hm : bs.length ≤ 1000000) (hm2 : n2 ≤ 1000000) (hx : ∀ x ∈ l, 0 ≤ x ∧ x < 18446744073709551616) (hr2 : Rd w w.heap.size 1 A2 n2 (l.flatMap encQ)) :
    Calls Try.prog 25 #[.pointer (some ⟨gw, 0, none⟩), .slice A2 n2 c2] w fun e w' => e = .returned (.tuple #[]) ∧ WrS w0 gm gw m (bs ++ l.flatMap (bytesN 8 false)) w' ∧ Near (fun i => i = gw) w w' := by
  have hne := h.ne
  have hmb := h.mb
  have hbl := h.bl
  have hg := h.gm
  have hgw := h.gw
  obtain ⟨A, c, hB, ho⟩ := h.wb
  refine (eight_any gw _ A A2 bs.length c n2 c2 bs l w hB rfl hl2 (by omega) (by omega) hx (Rd.of_own ho) hr2).mono fun e w' hh => ?_
  obtain ⟨he, A', c', hB', ho', hn⟩ := hh
  have hL : (bs ++ l.flatMap (bytesN 8 false)).length = bs.length + 8 * n2 := by
    rw [List.length_append, flatBytes_len, hl2]; omega
  refine ⟨he, ⟨hmb.same (hn.block _ hmb.lt hne), ⟨A', c', by rw [hL]; exact hB', by rw [hL]; exact own_le_base ho' hbl.size⟩, ?_, hg, hgw⟩, hn⟩
  exact hbl.trans (hn.below (fun i hi => by omega) hbl.size)
theorem raw_step {w0 w : World} {gm gw : Nat} {m : Mf} {bs : List Int} (h : WrS w0 gm gw m bs w) (A2 : Option Addr) (n2 c2 : Nat) (ps : List Pt) (hl2 : ps.length = n2) (hm2 : n2 ≤ 1000) (hs : (bs ++ catN ps).length ≤ 1000000) (hp : ∀ p ∈ ps, PtOk w w.heap.size p) (hr2 : Rd w w.heap.size 1 A2 n2 (ps.flatMap encPt)) :
    Calls Try.prog 26 #[.pointer (some ⟨gw, 0, none⟩), .slice A2 n2 c2] w fun e w' => e = .returned (.tuple #[]) ∧ WrS w0 gm gw m (bs ++ catN ps) w' ∧ Near (fun i => i = gw) w w' := by
  have hne := h.ne
  have hmb := h.mb
  have hbl := h.bl
  have hg := h.gm
  have hgw := h.gw
  obtain ⟨A, c, hB, ho⟩ := h.wb
  refine (raw_any gw _ A A2 bs.length c n2 c2 bs ps w hB rfl hl2 (by omega) (Rd.of_own ho) hr2 hp rfl (by omega)).mono fun e w' hh => ?_
  obtain ⟨he, A', c', hB', ho', hn⟩ := hh
  exact ⟨he, ⟨hmb.same (hn.block _ hmb.lt hne), ⟨A', c', hB', own_le_base ho' hbl.size⟩, hbl.trans (hn.below (fun i hi => by omega) hbl.size), hg, hgw⟩, hn⟩
end Go.Proofs.Ytjjbpiejplfbpaa
