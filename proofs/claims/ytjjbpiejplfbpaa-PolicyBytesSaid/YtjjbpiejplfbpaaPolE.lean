/- Chapter 27: a manifest, put as bytes: the program's. -/
import Derived.Test.YtjjbpiejplfbpaaPolD
namespace Go.Proofs.Ytjjbpiejplfbpaa
set_option linter.unusedVariables false
open Go.RowKit Go.Sort

/-- A manifest as bytes, or refused. -/
def MputRes (m : Mf) (w : World) (e : Ending) (w' : World) : Prop :=
  (mputOk m = true ∧ (∃ A' c', e = .returned (.tuple #[.slice A' (mBytes m).length c', .int .i64 0]) ∧ w'.ownsRow w.heap.size 5 1 (.slice A' (mBytes m).length c') (mBytes m).length ((mBytes m).flatMap encB)) ∨ mputOk m = false ∧ e = .returned (.tuple #[.slice none 0 0, .int .i64 271])) ∧ Below w.heap.size w w'
theorem putLog_res {l : List Rc} {n : Nat} {w : World} {e : Ending} {w' : World} (h : LputRes l n w e w') :
    (lputOk l = true → ∃ A' c', e = .returned (.tuple #[.slice A' (4 + 44 * n) c', .int .i64 0]) ∧ w'.ownsRow w.heap.size 5 1 (.slice A' (4 + 44 * n) c') (4 + 44 * n) ((logBytes l).flatMap encB) ∧ Below w.heap.size w w') ∧
    (lputOk l = false → e = .returned (.tuple #[.slice none 0 0, .int .i64 250]) ∧ Below w.heap.size w w') := by
  obtain ⟨h, hb⟩ := h
  rcases h with ⟨h, A', c', he, ho⟩ | ⟨h, he⟩
  · exact ⟨fun _ => ⟨A', c', he, ho, hb⟩, fun h' => (by rw [h] at h'; cases h')⟩
  · exact ⟨fun h' => (by rw [h] at h'; cases h'), fun _ => ⟨he, hb⟩⟩

theorem mcell3 {w : World} {g : Nat} {t : TypeId} {m : Mf} (h : Blk w g t m.cs.toArray) : w.cell? ⟨g, 1, none⟩ = some (.int .u64 m.vt) ∧ w.cell? ⟨g, 2, none⟩ = some (.int .u64 m.irq) ∧ w.cell? ⟨g, 3, none⟩ = some (.int .u64 m.str) := ⟨(mcell h).2.1, (mcell h).2.2.1, (mcell h).2.2.2.1⟩
theorem mcell4 {w : World} {g : Nat} {t : TypeId} {m : Mf} (h : Blk w g t m.cs.toArray) : w.cell? ⟨g, 4, none⟩ = some (.int .i64 m.fr) := (mcell h).2.2.2.2
theorem own_near {w w' : World} {b s n gw : Nat} {e t : TypeId} {v : Value} {xs : List Value} {cs : Array Value} (ho : w.ownsRow b e s v n xs) (hB : Blk w gw t cs) (hne : e ≠ t) (hn : Near (fun i => i = gw) w w') : w'.ownsRow b e s v n xs :=
  own_same ho fun k hk => hn.block k (own_lt ho hk).2 (fun e => own_blk_ne ho hB hne (by rw [hk, e]))
theorem WrS.own {w0 w w' : World} {gm gw : Nat} {m : Mf} {bs : List Int} (h : WrS w0 gm gw m bs w) {b s n : Nat} {v : Value} {xs : List Value} (ho : w.ownsRow b 5 s v n xs) (hn : Near (fun i => i = gw) w w') : w'.ownsRow b 5 s v n xs := by
  obtain ⟨A, c, hB, _⟩ := h.wb
  exact own_near ho hB (by decide) hn
theorem ad {w : World} (o : Obj) : Below w.heap.size w (w.alloc o).drew := (bal (Below.refl _ _) _).drew
/-- The three parts behind a manifest's numbers. -/
theorem mparts {w0 w : World} {gm gw : Nat} {m : Mf} {bs : List Int} (h : WrS w0 gm gw m bs w) (hr : m.regs.length = 64) {A1 : Option Addr} {x1 N b : Nat} {lb : List Int} (hl : lb.length = N) (ho : w.ownsRow b 5 1 (.slice A1 N x1) N (lb.flatMap encB)) (o : Obj) :
    ∀ p ∈ ([⟨some ⟨gm, 5, none⟩, 32, 32, m.regs.take 32⟩, ⟨some ⟨gm, 37, none⟩, 32, 32, m.regs.drop 32⟩, ⟨A1, N, x1, lb⟩] : List Pt), PtOk ((w.alloc o).drew) (w.alloc o).drew.heap.size p := by
  obtain ⟨r1, r2⟩ := mregs hr h.mb
  have hs : w.heap.size ≤ (w.alloc o).drew.heap.size := (ad o).size
  intro p hp
  simp only [List.mem_cons, List.not_mem_nil, or_false] at hp
  rcases hp with rfl | rfl | rfl
  · exact ⟨by simp [hr], (r1.below (ad o)).more hs⟩
  · exact ⟨by simp [hr], (r2.below (ad o)).more hs⟩
  · exact ⟨hl, ((Rd.of_own ho).below (ad o)).more hs⟩
theorem mBytes_eq (m : Mf) : mBytes m = mHead m ++ bytesN 4 false m.gs.length ++ m.gs.flatMap stBytes := rfl
theorem mHead_eq (m : Mf) : ((([] ++ [(1112359246 : Int), m.ver].flatMap (bytesN 4 false)) ++ [m.vt, m.irq, m.str].flatMap (bytesN 8 false)) ++ [cut32 m.fr].flatMap (bytesN 4 false)) ++ catN [⟨none, 32, 32, m.regs.take 32⟩, ⟨none, 32, 32, m.regs.drop 32⟩, ⟨none, 0, 0, logBytes m.log⟩] = mHead m := by
  unfold mHead catN
  simp only [List.flatMap_cons, List.flatMap_nil, List.append_nil, List.nil_append, List.append_assoc]
  rw [← List.append_assoc (m.regs.take 32), List.take_append_drop]
theorem mHead_len {m : Mf} (hr : m.regs.length = 64) (hl : RcsOk m.log) : (mHead m).length = 104 + 44 * m.log.length := by
  unfold mHead
  simp only [List.length_append, bytesN_len, hr, logBytes_len hl]
  omega
theorem st_eq (s : St) (bs : List Int) : ((bs ++ [cut32 s.g, s.ver].flatMap (bytesN 4 false)) ++ [s.vt, s.en, s.dt].flatMap (bytesN 8 false)) ++ [s.cpus].flatMap (bytesN 4 false) = bs ++ stBytes s := by
  unfold stBytes
  simp only [List.flatMap_cons, List.flatMap_nil, List.append_nil, List.append_assoc]
theorem scell {w : World} {g : Nat} {t : TypeId} {s : St} (h : Blk w g t #[.int .i64 s.g, .int .u32 s.ver, .int .u64 s.vt, .int .u64 s.en, .int .u64 s.dt, .int .u32 s.cpus]) : w.cell? ⟨g, 0, none⟩ = some (.int .i64 s.g) ∧ w.cell? ⟨g, 1, none⟩ = some (.int .u32 s.ver) := ⟨h.cell 0, h.cell 1⟩
theorem scell3 {w : World} {g : Nat} {t : TypeId} {s : St} (h : Blk w g t #[.int .i64 s.g, .int .u32 s.ver, .int .u64 s.vt, .int .u64 s.en, .int .u64 s.dt, .int .u32 s.cpus]) : w.cell? ⟨g, 2, none⟩ = some (.int .u64 s.vt) ∧ w.cell? ⟨g, 3, none⟩ = some (.int .u64 s.en) ∧ w.cell? ⟨g, 4, none⟩ = some (.int .u64 s.dt) := ⟨h.cell 2, h.cell 3, h.cell 4⟩
theorem scell5 {w : World} {g : Nat} {t : TypeId} {s : St} (h : Blk w g t #[.int .i64 s.g, .int .u32 s.ver, .int .u64 s.vt, .int .u64 s.en, .int .u64 s.dt, .int .u32 s.cpus]) : w.cell? ⟨g, 5, none⟩ = some (.int .u32 s.cpus) := h.cell 5
theorem hTl2 {a b : List Int} {n : Nat} (h : a.length ≤ n) (hb : b.length ≤ 24) : (a ++ b).length ≤ n + 24 := by rw [List.length_append]; omega
theorem flatSt_len : ∀ l : List St, (l.flatMap stBytes).length = 36 * l.length
  | [] => rfl
  | a :: l => by rw [List.flatMap_cons, List.length_append, stBytes_len, flatSt_len l, List.length_cons]; omega

set_option maxRecDepth 100000 in
set_option maxHeartbeats 8000000 in
theorem mput_any (m : Mf) (w : World) (h : MfOk w w.heap.size m) (hn : m.n ≤ 100000) (hn2 : m.n2 ≤ 1000) :
    Calls Try.prog 15 #[.agg m.cs.toArray] w (MputRes m w) := by
  have HMf := Lib.hid h
  have hsz : m.cs.toArray.size = 71 := by simp [Mf.len h.rl]
  have HB0 := Lib.hid (Blk.new w 55 m.cs.toArray)
  have HbX := Lib.hid (bal (Below.refl w.heap.size w) (.cells m.cs.toArray 55))
  have HLog := Lib.hid (fun W (hb : Below w.heap.size w W) => (putLog_any m.A m.n m.c m.log W h.ll (by omega) h.lo ((h.lr.below hb).more hb.size)).mono fun e w' hh => putLog_res hh)
  have HRis := Lib.hid (fun W (hb : Below w.heap.size w W) => rising_any m.A2 m.n2 m.c2 m.gs W h.gl (by omega) ((h.gr.below hb).more hb.size))
  obtain ⟨c69, c70⟩ := mcellL h.rl HB0.out
  obtain ⟨d0, d1, d2, d3, d4⟩ := mcell HB0.out
  cases hlog : lputOk m.log with
  | false =>
    have HNo := Lib.hid (show mputOk m = false by unfold mputOk; rw [hlog]; rfl)
    have HLf := Lib.hid hlog
    clear hlog h
    go_enter Try.func15, Try.ntmps15
    go_wp2_with (go_at_call 22; refine (HLog.out _ HbX.out).mono ?_; rintro e w1 ⟨_, hres⟩; obtain ⟨rfl, hb1⟩ := hres HLf.out; clear hres)
    go_ret2
    exact ⟨.inr ⟨HNo.out, rfl⟩, HbX.out.trans (hb1.mono HbX.out.size)⟩
  | true =>
    have HLt := Lib.hid hlog
    by_cases hfr : m.fr < 0 ∨ (¬ m.fr < 0 ∧ 2147483647 < m.fr)
    · have HNo := Lib.hid (show mputOk m = false by unfold mputOk; rw [hlog, decide_eq_false (by omega)]; rfl)
      clear hlog h
      rcases hfr with hf | ⟨hf, hf2⟩
      all_goals
        go_enter Try.func15, Try.ntmps15
        go_wp2_with (go_at_call 22; refine (HLog.out _ HbX.out).mono ?_; rintro e w1 ⟨hres, _⟩; obtain ⟨A1, x1, rfl, hown1, hb1⟩ := hres HLt.out; clear hres; have hB1 := HB0.out.kept hb1; obtain ⟨e0, e1, e2, e3, e4⟩ := mcell hB1)
        go_ret2
        exact ⟨.inr ⟨HNo.out, rfl⟩, HbX.out.trans (hb1.mono HbX.out.size)⟩
    · have hf1 : ¬ m.fr < 0 := by omega
      have hf2 : ¬ 2147483647 < m.fr := by omega
      cases hris : rises m.gs with
      | false =>
        have HNo := Lib.hid (show mputOk m = false by unfold mputOk; rw [hlog, hris]; simp)
        rw [hris] at HRis
        clear hlog h hfr hris
        go_enter Try.func15, Try.ntmps15
        go_wp2_with (first
          | (go_at_call 22; refine (HLog.out _ HbX.out).mono ?_; rintro e w1 ⟨hres, _⟩; obtain ⟨A1, x1, rfl, hown1, hb1⟩ := hres HLt.out; clear hres; have hB1 := HB0.out.kept hb1; obtain ⟨e0, e1, e2, e3, e4⟩ := mcell hB1; obtain ⟨f1, f2⟩ := mcellL HMf.out.rl hB1; have hbx1 := HbX.out.trans (hb1.mono HbX.out.size))
          | (go_at_call 23; refine (HRis.out _ hbx1).mono ?_; rintro e w2 ⟨rfl, hb2⟩))
        go_ret2
        exact ⟨.inr ⟨HNo.out, rfl⟩, hbx1.trans (hb2.mono hbx1.size)⟩
      | true =>
        have HYes := Lib.hid (show mputOk m = true by unfold mputOk; rw [hlog, hris, decide_eq_true (by omega)]; rfl)
        have HN64 := Lib.hid (show m.n ≤ 64 by have := hlog; unfold lputOk at this; simp only [Bool.and_eq_true, decide_eq_true_eq] at this; rw [h.ll] at this; exact this.1)
        rw [hris] at HRis
        clear hlog h hfr hris
        go_enter Try.func15, Try.ntmps15
        go_wp2_with (first
          | (go_at_call 22; refine (HLog.out _ HbX.out).mono ?_; rintro e w1 ⟨hres, _⟩; obtain ⟨A1, x1, rfl, hown1, hb1⟩ := hres HLt.out; clear hres; have hB1 := HB0.out.kept hb1; obtain ⟨e0, e1, e2, e3, e4⟩ := mcell hB1; obtain ⟨f1, f2⟩ := mcellL HMf.out.rl hB1; have hbx1 := HbX.out.trans (hb1.mono HbX.out.size))
          | (go_at_call 23; refine (HRis.out _ hbx1).mono ?_; rintro e w2 ⟨rfl, hb2⟩))
        have hbx2 := hbx1.trans (hb2.mono hbx1.size)
        refine wp_name ?_
        intro w3 hw3
        have hS3 : WrS w w.heap.size w2.heap.size m [] w3 := by
          rw [hw3]
          exact ⟨(hB1.kept hb2).alloc _, ⟨none, 0, Blk.new _ _ _, World.ownsRow_nil _ _ _ _⟩, bal hbx2 _, Nat.le_refl _, hbx2.size⟩
        have hO3 : Hid (w3.ownsRow w.heap.size 5 1 (.slice A1 (4 + 44 * m.n) x1) (4 + 44 * m.n) ((logBytes m.log).flatMap encB)) := Lib.hid (by
          rw [hw3]
          exact (own_kept (own_le_base hown1 (by simp)) hb2).alloc _)
        have hgm : w.heap.size < w2.heap.size := Nat.lt_of_lt_of_le hB1.lt hb2.size
        clear hw3 hb1 hb2 hbx1 hbx2 hB1 hown1 e0 e1 e2 e3 e4 f1 f2 c69 c70 d0 d1 d2 d3 d4
        generalize hgw : w2.heap.size = gw at *
        clear hgw
        have HX5 := Lib.hid (fun x (hx : x ∈ [(1112359246 : Int), m.ver]) => (show 0 ≤ x ∧ x < 4294967296 by
          simp only [List.mem_cons, List.not_mem_nil, or_false] at hx
          rcases hx with rfl | rfl
          · decide
          · exact HMf.out.ver))
        have k3 := mcell hS3.mb
        go_region_held3 (fun w' => w'.cell? ⟨w.heap.size, 0, none⟩ = some (.int .u32 m.ver)) (first | with_reducible exact (mcell hS3.mb).1 | with_reducible exact (mcell hS3.mb.drew).1 | with_reducible exact (mcell (hS3.mb.alloc _).drew).1 | with_reducible exact (mcell hS4.mb).1)
          (first
            | (go_at_call 24; refine (four_step ((hS3.alloc (.cells #[.int .u32 1112359246, .int .u32 m.ver] 22)).drew) _ 2 2 [1112359246, m.ver] rfl (by simp) (by decide) HX5.out (Rd.drew (Rd.fresh w3 #[.int .u32 1112359246, .int .u32 m.ver] _ 2 1 _ rfl rfl))).mono ?_; rintro e w4 ⟨rfl, hS4, hn4⟩))
        have hO4 := Lib.hid (WrS.own (hS3.alloc _).drew (own_kept hO3.out (ad _)) hn4)
        have h4w := hn4.size
        go_wp2
        clear hS3 hO3 hn4 k3
        have HX6 := Lib.hid (fun x (hx : x ∈ [m.vt, m.irq, m.str]) => (show 0 ≤ x ∧ x < 18446744073709551616 by
          simp only [List.mem_cons, List.not_mem_nil, or_false] at hx
          rcases hx with rfl | rfl | rfl
          · exact HMf.out.vt
          · exact HMf.out.irq
          · exact HMf.out.str))
        go_region_held3 (fun w' => w'.cell? ⟨w.heap.size, 1, none⟩ = some (.int .u64 m.vt) ∧ w'.cell? ⟨w.heap.size, 2, none⟩ = some (.int .u64 m.irq) ∧ w'.cell? ⟨w.heap.size, 3, none⟩ = some (.int .u64 m.str)) (first | with_reducible exact mcell3 hS4.mb | with_reducible exact mcell3 hS4.mb.drew | with_reducible exact mcell3 (hS4.mb.alloc _).drew | with_reducible exact mcell3 hS5.mb)
          (first
            | (go_at_call 25; refine (eight_step ((hS4.alloc (.cells #[.int .u64 m.vt, .int .u64 m.irq, .int .u64 m.str] 42)).drew) _ 3 3 [m.vt, m.irq, m.str] rfl (by simp [bytesN_len]) (by decide) HX6.out (Rd.drew (Rd.fresh w4 #[.int .u64 m.vt, .int .u64 m.irq, .int .u64 m.str] _ 3 1 _ rfl rfl))).mono ?_; rintro e w5 ⟨rfl, hS5, hn5⟩))
        have hO5 := Lib.hid (WrS.own (hS4.alloc _).drew (own_kept hO4.out (ad _)) hn5)
        go_wp2
        clear hS4 hO4 hn5 HX6 HX5
        have u7 : IntKind.u32.wrap m.fr = cut32 m.fr := by rw [IntKind.wrap_u32']; rfl
        go_region_held3 (fun w' => w'.cell? ⟨w.heap.size, 4, none⟩ = some (.int .i64 m.fr)) (first | with_reducible exact mcell4 hS5.mb | with_reducible exact mcell4 hS5.mb.drew | with_reducible exact mcell4 (hS5.mb.alloc _).drew | with_reducible exact mcell4 hS6.mb)
          (first
            | (go_at_call 24; refine (four_step ((hS5.alloc (.cells #[.int .u32 (cut32 m.fr)] 22)).drew) _ 1 1 [cut32 m.fr] rfl (by simp [bytesN_len]) (by decide) (by intro x hx; simp at hx; subst hx; exact cut32_ok _) (Rd.drew (Rd.fresh w5 #[.int .u32 (cut32 m.fr)] _ 1 1 _ rfl rfl))).mono ?_; rintro e w6 ⟨rfl, hS6, hn6⟩))
        have hO6 := Lib.hid (WrS.own (hS5.alloc _).drew (own_kept hO5.out (ad _)) hn6)
        go_wp2
        clear hS5 hO5 hn6 u7
        have HLL := Lib.hid (show (logBytes m.log).length = 4 + 44 * m.n by rw [logBytes_len HMf.out.lo, HMf.out.ll])
        have hn64 := HN64.out
        have HCL := Lib.hid (show ((([] ++ [(1112359246 : Int), m.ver].flatMap (bytesN 4 false)) ++ [m.vt, m.irq, m.str].flatMap (bytesN 8 false)) ++ [cut32 m.fr].flatMap (bytesN 4 false) ++ catN [⟨some ⟨w.heap.size, 5, none⟩, 32, 32, m.regs.take 32⟩, ⟨some ⟨w.heap.size, 37, none⟩, 32, 32, m.regs.drop 32⟩, ⟨A1, 4 + 44 * m.n, x1, logBytes m.log⟩]) = mHead m from mHead_eq m)
        have HHL := Lib.hid (show (mHead m).length = 104 + 44 * m.n by rw [mHead_len HMf.out.rl HMf.out.lo, HMf.out.ll])
        go_region_held3 (fun w' => w'.cell? ⟨w.heap.size, 4, none⟩ = some (.int .i64 m.fr)) (first | with_reducible exact mcell4 hS6.mb | with_reducible exact mcell4 hS6.mb.drew | with_reducible exact mcell4 (hS6.mb.alloc _).drew | with_reducible exact mcell4 hS7.mb)
          (first
            | (go_at_call 26; refine (raw_step ((hS6.alloc (.cells #[.slice (some ⟨w.heap.size, 5, none⟩) 32 32, .slice (some ⟨w.heap.size, 37, none⟩) 32 32, .slice A1 (4 + 44 * m.n) x1] 39)).drew) _ 3 3 [⟨some ⟨w.heap.size, 5, none⟩, 32, 32, m.regs.take 32⟩, ⟨some ⟨w.heap.size, 37, none⟩, 32, 32, m.regs.drop 32⟩, ⟨A1, 4 + 44 * m.n, x1, logBytes m.log⟩] rfl (by decide) (by rw [HCL.out, HHL.out]; omega) (mparts hS6 HMf.out.rl HLL.out hO6.out _) (Rd.drew (Rd.fresh w6 #[.slice (some ⟨w.heap.size, 5, none⟩) 32 32, .slice (some ⟨w.heap.size, 37, none⟩) 32 32, .slice A1 (4 + 44 * m.n) x1] _ 3 1 _ rfl rfl))).mono ?_; rintro e w7 ⟨rfl, hS7, hn7⟩))
        rw [HCL.out] at hS7
        go_wp2
        clear hS6 hO6 hn7 HCL HLL h4w HLog HRis HbX HB0 HLt
        have u8 : IntKind.u32.wrap (m.n2 : Int) = (m.n2 : Int) := by rw [IntKind.wrap_u32']; omega
        have HB0L := Lib.hid (fun (g : Nat) (W : World) (h : Blk W g 55 m.cs.toArray) => (mcellL HMf.out.rl h).2)
        go_region_held3 (fun w' => w'.cell? ⟨w.heap.size, 70, none⟩ = some (.slice m.A2 m.n2 m.c2)) (first | with_reducible exact HB0L.out _ _ hS7.mb | with_reducible exact HB0L.out _ _ hS7.mb.drew | with_reducible exact HB0L.out _ _ (hS7.mb.alloc _).drew | with_reducible exact HB0L.out _ _ hS8.mb)
          (first
            | (go_at_call 24; refine (four_step ((hS7.alloc (.cells #[.int .u32 m.n2] 22)).drew) _ 1 1 [(m.n2 : Int)] rfl (by rw [HHL.out]; omega) (by decide) (by intro x hx; simp at hx; subst hx; omega) (Rd.drew (Rd.fresh w7 #[.int .u32 m.n2] _ 1 1 _ rfl rfl))).mono ?_; rintro e w8 ⟨rfl, hS8, hn8⟩))
        have cL := HB0L.out _ _ hS8.mb
        obtain ⟨bs, hbs⟩ : ∃ bs, mHead m ++ [(m.n2 : Int)].flatMap (bytesN 4 false) = bs := ⟨_, rfl⟩
        rw [hbs] at hS8
        have HBl := Lib.hid (show bs.length = 108 + 44 * m.n by rw [← hbs, List.length_append, HHL.out]; simp [bytesN_len]; omega)
        have HBs := Lib.hid (show bs ++ m.gs.flatMap stBytes = mBytes m by
          rw [← hbs, mBytes_eq, HMf.out.gl]; simp only [List.flatMap_cons, List.flatMap_nil, List.append_nil])
        go_wp2
        clear hS7 hn8 hbs u8 HHL cL
        have HS8 := Lib.hid hS8
        clear hS8
        go_loopw [85] (fun i wr => ∃ k : Nat, k ≤ m.n2 ∧ i = .int .i64 k ∧ Hid (WrS w w.heap.size gw m (bs ++ (m.gs.take k).flatMap stBytes) wr)) (fun i _ => m.n2 - (intOf i).toNat)
        case atStart => exact ⟨0, by omega, rfl, Lib.hid (by simpa using HS8.out)⟩
        case round =>
          obtain ⟨k, hk, rfl, hSk⟩ := hrel
          clear HS8
          have hSr := hSk.out
          clear hSk
          by_cases hlt : k < m.n2
          · have hlt' : k < m.gs.length := by rw [HMf.out.gl]; exact hlt
            obtain ⟨b, o, hA, hbb, hc⟩ := (HMf.out.gr.below hSr.bl).row (fun _ => rfl) hlt' HMf.out.gl
            have d0 := hc 0 (by omega)
            have d1 := hc 1 (by omega)
            have d2 := hc 2 (by omega)
            have d3 := hc 3 (by omega)
            have d4 := hc 4 (by omega)
            have d5 := hc 5 (by omega)
            simp only [encSt, Nat.add_zero, List.getElem?_cons_zero, List.getElem?_cons_succ] at d0 d1 d2 d3 d4 d5
            have HT := Lib.hid (List.take_succ_eq_append_getElem hlt')
            have hok := HMf.out.go _ (List.getElem_mem hlt')
            have HTl := Lib.hid (show (bs ++ (m.gs.take k).flatMap stBytes).length ≤ 100000 by
              rw [List.length_append, flatSt_len, HBl.out, List.length_take]; omega)
            clear hc
            generalize m.gs[k] = s at *
            generalize hbk : bs ++ (m.gs.take k).flatMap stBytes = bk at *
            have HBk := Lib.hid hbk
            clear hbk
            have hgwl : gw < wr.heap.size := by obtain ⟨_, _, hB, _⟩ := hSr.wb; exact hB.lt
            rw [hA]
            go_wp2
            refine wp_name ?_
            intro v1 hv1
            have hT1 : WrS w w.heap.size gw m bk v1 := by rw [hv1]; exact hSr.alloc _
            have hX1 : Blk v1 wr.heap.size 72 #[.int .i64 s.g, .int .u32 s.ver, .int .u64 s.vt, .int .u64 s.en, .int .u64 s.dt, .int .u32 s.cpus] := by rw [hv1]; exact Blk.new _ _ _
            have hne : wr.heap.size ≠ gw := by omega
            clear hv1 hSr d0 d1 d2 d3 d4 d5
            generalize wr.heap.size = gs at *
            have u1 : IntKind.u32.wrap s.g = cut32 s.g := by rw [IntKind.wrap_u32']; rfl
            have Y1 := Lib.hid (fun x (hx : x ∈ [cut32 s.g, s.ver]) => (show 0 ≤ x ∧ x < 4294967296 by
              simp only [List.mem_cons, List.not_mem_nil, or_false] at hx
              rcases hx with rfl | rfl
              · exact cut32_ok _
              · exact hok.ver))
            have Y2 := Lib.hid (fun x (hx : x ∈ [s.vt, s.en, s.dt]) => (show 0 ≤ x ∧ x < 18446744073709551616 by
              simp only [List.mem_cons, List.not_mem_nil, or_false] at hx
              rcases hx with rfl | rfl | rfl
              · exact hok.vt
              · exact hok.en
              · exact hok.dt))
            have Y3 := Lib.hid (fun x (hx : x ∈ [s.cpus]) => (show 0 ≤ x ∧ x < 4294967296 by
              simp only [List.mem_cons, List.not_mem_nil, or_false] at hx
              subst hx
              exact hok.cpus))
            clear hok
            go_region_held3 (fun w' => w'.cell? ⟨gs, 0, none⟩ = some (.int .i64 s.g) ∧ w'.cell? ⟨gs, 1, none⟩ = some (.int .u32 s.ver)) (first | with_reducible exact scell hX1 | with_reducible exact scell hX1.drew | with_reducible exact scell (hX1.alloc _).drew | with_reducible exact scell hX2)
              (first
                | (go_at_call 24; refine (four_step ((hT1.alloc (.cells #[.int .u32 (cut32 s.g), .int .u32 s.ver] 22)).drew) _ 2 2 [cut32 s.g, s.ver] rfl (Nat.le_trans HTl.out (by decide)) (by decide) Y1.out (Rd.drew (Rd.fresh v1 #[.int .u32 (cut32 s.g), .int .u32 s.ver] _ 2 1 _ rfl rfl))).mono ?_; rintro e v2 ⟨rfl, hT2, hn2'⟩; have hX2 := ((hX1.alloc (.cells #[.int .u32 (cut32 s.g), .int .u32 s.ver] 22)).drew).same (hn2'.block _ ((hX1.alloc _).drew.lt) hne)))
            have l2 := hTl2 HTl.out (by simp [bytesN_len] : ([cut32 s.g, s.ver].flatMap (bytesN 4 false)).length ≤ 24)
            have L2 := Lib.hid l2
            clear l2
            go_wp2
            clear hT1 hX1 hn2'
            go_region_held3 (fun w' => w'.cell? ⟨gs, 2, none⟩ = some (.int .u64 s.vt) ∧ w'.cell? ⟨gs, 3, none⟩ = some (.int .u64 s.en) ∧ w'.cell? ⟨gs, 4, none⟩ = some (.int .u64 s.dt)) (first | with_reducible exact scell3 hX2 | with_reducible exact scell3 hX2.drew | with_reducible exact scell3 (hX2.alloc _).drew | with_reducible exact scell3 hX3)
              (first
                | (go_at_call 25; refine (eight_step ((hT2.alloc (.cells #[.int .u64 s.vt, .int .u64 s.en, .int .u64 s.dt] 42)).drew) _ 3 3 [s.vt, s.en, s.dt] rfl (Nat.le_trans L2.out (by decide)) (by decide) Y2.out (Rd.drew (Rd.fresh v2 #[.int .u64 s.vt, .int .u64 s.en, .int .u64 s.dt] _ 3 1 _ rfl rfl))).mono ?_; rintro e v3 ⟨rfl, hT3, hn3'⟩; have hX3 := ((hX2.alloc (.cells #[.int .u64 s.vt, .int .u64 s.en, .int .u64 s.dt] 42)).drew).same (hn3'.block _ ((hX2.alloc _).drew.lt) hne)))
            have L3 := Lib.hid (hTl2 L2.out (by simp [bytesN_len] : ([s.vt, s.en, s.dt].flatMap (bytesN 8 false)).length ≤ 24))
            go_wp2
            clear hT2 hX2 hn3'
            go_region_held3 (fun w' => w'.cell? ⟨gs, 5, none⟩ = some (.int .u32 s.cpus)) (first | with_reducible exact scell5 hX3 | with_reducible exact scell5 hX3.drew | with_reducible exact scell5 (hX3.alloc _).drew | with_reducible exact scell5 hX4)
              (first
                | (go_at_call 24; refine (four_step ((hT3.alloc (.cells #[.int .u32 s.cpus] 22)).drew) _ 1 1 [s.cpus] rfl (Nat.le_trans L3.out (by decide)) (by decide) Y3.out (Rd.drew (Rd.fresh v3 #[.int .u32 s.cpus] _ 1 1 _ rfl rfl))).mono ?_; rintro e v4 ⟨rfl, hT4, hn4'⟩; have hX4 := ((hX3.alloc (.cells #[.int .u32 s.cpus] 22)).drew).same (hn4'.block _ ((hX3.alloc _).drew.lt) hne)))
            rw [st_eq] at hT4
            have HT4 := Lib.hid hT4
            clear hT3 hX3 hn4' hT4 hX4
            go_wp2
            go_roundw
            case rel =>
              refine ⟨k + 1, by omega, by go_num, Lib.hid ?_⟩
              rw [HT.out, List.flatMap_append, ← List.append_assoc, HBk.out]
              have := HT4.out
              simpa using this
            case measure => simp [intOf]; omega
          · obtain rfl : k = m.n2 := by omega
            rw [List.take_of_length_le (by rw [HMf.out.gl]; exact Nat.le_refl _), HBs.out] at hSr
            obtain ⟨A9, c9, hB9, ho9⟩ := hSr.wb
            have hb9 := hSr.bl
            have cB9 := hB9.cell
            clear hSr
            go_wp2
            go_ret2
            exact ⟨.inl ⟨HYes.out, A9, c9, rfl, ho9⟩, hb9⟩
end Go.Proofs.Ytjjbpiejplfbpaa
