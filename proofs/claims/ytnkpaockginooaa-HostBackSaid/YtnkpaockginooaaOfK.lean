/- How long a tree's bytes are; a board's tree may be put. -/
import Derived.Test.YtnkpaockginooaaOfI
import Derived.Test.YtnkpaockginooaaHostN
namespace Go.Proofs.Ytnkpaockginooaa
set_option linter.unusedVariables false
set_option linter.unusedSimpArgs false
open Go.RowKit Go.Sort
def costB : Nat → Tr → Nat
  | 0, _ => 0
  | f + 1, t => 16 + t.nm.size + (t.ps.map fun p => 15 + p.2.length).sum + (t.ks.map (costB f)).sum
def costX : Nat → Tr → Nat
  | 0, _ => 0
  | f + 1, t => (t.ps.map fun p => p.1.size + 1).sum + (t.ks.map (costX f)).sum
theorem props_cost : ∀ (ps : List Pr) (st : WS), (ps.foldl propS st).b.length ≤ st.b.length + (ps.map fun p => 15 + p.2.length).sum ∧ (ps.foldl propS st).x.length ≤ st.x.length + (ps.map fun p => p.1.size + 1).sum
  | [], st => ⟨by simp, by simp⟩
  | p :: ps, st => by
    obtain ⟨h1, h2⟩ := props_cost ps (propS st p)
    have h3 : (propS st p).b.length ≤ st.b.length + 15 + p.2.length := by
      simp only [propS, fillN_len, List.length_append, be4_len, List.length_cons, List.length_nil]
      omega
    have h4 := (textS_bd st p.1).1
    have h5 : (propS st p).x.length = (textS st p.1).1.x.length := rfl
    simp only [List.foldl_cons, List.map_cons, List.sum_cons]
    exact ⟨by omega, by omega⟩
theorem kids_cost {f : Nat} (hN : ∀ t st, (nodeS f t st).b.length ≤ st.b.length + costB f t ∧ (nodeS f t st).x.length ≤ st.x.length + costX f t) : ∀ (ks : List Tr) (st : WS), (ks.foldl (fun s k => nodeS f k s) st).b.length ≤ st.b.length + (ks.map (costB f)).sum ∧ (ks.foldl (fun s k => nodeS f k s) st).x.length ≤ st.x.length + (ks.map (costX f)).sum
  | [], st => ⟨by simp, by simp⟩
  | k :: ks, st => by
    obtain ⟨h1, h2⟩ := kids_cost hN ks (nodeS f k st)
    obtain ⟨h3, h4⟩ := hN k st
    simp only [List.foldl_cons, List.map_cons, List.sum_cons]
    exact ⟨by omega, by omega⟩
theorem node_cost : ∀ (f : Nat) (t : Tr) (st : WS), (nodeS f t st).b.length ≤ st.b.length + costB f t ∧ (nodeS f t st).x.length ≤ st.x.length + costX f t
  | 0, t, st => ⟨Nat.le_refl _, Nat.le_refl _⟩
  | f + 1, t, st => by
    obtain ⟨h1, h2⟩ := props_cost t.ps (headS t.nm st)
    obtain ⟨h3, h4⟩ := kids_cost (node_cost f) t.ks (t.ps.foldl propS (headS t.nm st))
    have hl := head_len t.nm st
    have hx : (headS t.nm st).x = st.x := rfl
    rw [hx] at h2
    rw [nodeS_b, nodeS_x, List.length_append, bytesN_len]
    unfold costB costX
    exact ⟨by omega, by omega⟩
theorem sum_le {α : Type} (g : α → Nat) (m : Nat) : ∀ (l : List α), (∀ x ∈ l, g x ≤ m) → (l.map g).sum ≤ l.length * m
  | [], _ => by simp
  | x :: l, h => by
    have h1 := sum_le g m l fun y hy => h y (by simp [hy])
    have h2 := h x (by simp)
    simp only [List.map_cons, List.sum_cons, List.length_cons, Nat.add_mul, Nat.one_mul]
    omega
theorem hexN_le (n : Nat) : (hexN n).length ≤ 16 := hexF_len 16 n
theorem cpu_cost (i : Nat) : costB 6 (cpuT i) ≤ 60 ∧ costX 6 (cpuT i) ≤ 4 := by
  have h1 : (cpuT i).nm.size ≤ 20 := by
    show (strOfNums (atN [99, 112, 117] i)).size ≤ 20
    rw [strOfNums_size]
    have := atN_len [99, 112, 117] i
    simpa using this
  constructor
  · unfold costB
    have h2 : (cpuT i).ps = [(⟨#[114, 101, 103]⟩, [(i : Int)].flatMap (bytesN 4 false))] := rfl
    have h3 : (cpuT i).ks = [] := rfl
    rw [h2, h3]
    simp [bytesN_len]
    omega
  · unfold costX
    have h2 : (cpuT i).ps = [(⟨#[114, 101, 103]⟩, [(i : Int)].flatMap (bytesN 4 false))] := rfl
    have h3 : (cpuT i).ks = [] := rfl
    rw [h2, h3]
    exact (show (3 + 1) + 0 + 0 ≤ 4 by decide)
theorem host_short {x : Bd} (h : x.cpus.toNat ≤ 32) : 56 + (putS (hostT x)).b.length + (putS (hostT x)).x.length ≤ 16384 := by
  have h12 := node_cost 8 (hostT x) ⟨[], [], []⟩
  have hcb : costB 7 (cpusT x.cpus.toNat) ≤ 20 + 32 * 60 := by
    unfold costB
    have h2 : (cpusT x.cpus.toNat).ks = (List.range x.cpus.toNat).map cpuT := rfl
    have h3 : (cpusT x.cpus.toNat).ps = [] := rfl
    have h4 : (cpusT x.cpus.toNat).nm.size = 4 := rfl
    rw [h2, h3, h4, List.map_map]
    have := sum_le (costB 6 ∘ cpuT) 60 (List.range x.cpus.toNat) fun i _ => (cpu_cost i).1
    rw [List.length_range] at this
    simp only [List.map_nil, List.sum_nil]
    omega
  have hcx : costX 7 (cpusT x.cpus.toNat) ≤ 32 * 4 := by
    unfold costX
    have h2 : (cpusT x.cpus.toNat).ks = (List.range x.cpus.toNat).map cpuT := rfl
    have h3 : (cpusT x.cpus.toNat).ps = [] := rfl
    rw [h2, h3, List.map_map]
    have := sum_le (costX 6 ∘ cpuT) 4 (List.range x.cpus.toNat) fun i _ => (cpu_cost i).2
    rw [List.length_range] at this
    simp only [List.map_nil, List.sum_nil]
    omega
  have hst : ∀ (l : List Int) (b s : Int), l.length ≤ 6 → costB 7 (stretchT l b s) ≤ 80 ∧ costX 7 (stretchT l b s) ≤ 4 := fun l b s hl => by
    have h1 : (stretchT l b s).nm.size ≤ 23 := by
      show (strOfNums (atN l b.toNat)).size ≤ 23
      rw [strOfNums_size]
      have := atN_len l b.toNat
      omega
    have h2 : (stretchT l b s).ps = [regP b s] := rfl
    have h3 : (stretchT l b s).ks = [] := rfl
    constructor
    · unfold costB
      rw [h2, h3]
      simp [regP, bytesN_len]
      omega
    · unfold costX
      rw [h2, h3]
      exact (show (3 + 1) + 0 + 0 ≤ 4 by decide)
  have hB : costB 8 (hostT x) ≤ 4000 := by
    have s1 := (hst [109, 101, 109, 111, 114, 121] x.rb x.rs (by decide)).1
    have s2 := (hst [108, 111, 97, 100, 101, 114] x.lb x.ls (by decide)).1
    have e : costB 8 (hostT x) = 16 + (hostT x).nm.size + ((hostT x).ps.map fun p => 15 + p.2.length).sum + ((hostT x).ks.map (costB 7)).sum := by rw [costB]
    have hp : (hostT x).ps = [hcompP, irqsP x.irqs, strsP x.strs] := rfl
    have hk : (hostT x).ks = [cpusT x.cpus.toNat, stretchT [109, 101, 109, 111, 114, 121] x.rb x.rs, stretchT [108, 111, 97, 100, 101, 114] x.lb x.ls] := rfl
    have hn : (hostT x).nm.size = 0 := rfl
    rw [hp, hk, hn] at e
    simp only [List.map_cons, List.map_nil, List.sum_cons, List.sum_nil] at e
    have e1 : hcompP.2.length = 15 := rfl
    have e2 : (irqsP x.irqs).2.length = 4 := by simp [irqsP, bytesN_len]
    have e3 : (strsP x.strs).2.length = 4 := by simp [strsP, bytesN_len]
    omega
  have hX : costX 8 (hostT x) ≤ 400 := by
    have s1 := (hst [109, 101, 109, 111, 114, 121] x.rb x.rs (by decide)).2
    have s2 := (hst [108, 111, 97, 100, 101, 114] x.lb x.ls (by decide)).2
    have e : costX 8 (hostT x) = ((hostT x).ps.map fun p => p.1.size + 1).sum + ((hostT x).ks.map (costX 7)).sum := by rw [costX]
    have hp : (hostT x).ps = [hcompP, irqsP x.irqs, strsP x.strs] := rfl
    have hk : (hostT x).ks = [cpusT x.cpus.toNat, stretchT [109, 101, 109, 111, 114, 121] x.rb x.rs, stretchT [108, 111, 97, 100, 101, 114] x.lb x.ls] := rfl
    rw [hp, hk] at e
    simp only [List.map_cons, List.map_nil, List.sum_cons, List.sum_nil] at e
    have e1 : hcompP.1.size = 10 := rfl
    have e2 : (irqsP x.irqs).1.size = 4 := rfl
    have e3 : (strsP x.strs).1.size = 7 := rfl
    omega
  have hb : (putS (hostT x)).b.length = (nodeS 8 (hostT x) ⟨[], [], []⟩).b.length + 4 := by
    simp only [putS, List.length_append, be4_len, List.length_cons, List.length_nil]
  have hx : (putS (hostT x)).x.length = (nodeS 8 (hostT x) ⟨[], [], []⟩).x.length := by simp only [putS]
  generalize hN : nodeS 8 (hostT x) ⟨[], [], []⟩ = N at *
  obtain ⟨h1, h2⟩ := h12
  simp only [List.length_nil] at h1 h2
  omega
end Go.Proofs.Ytnkpaockginooaa
namespace Go.Proofs.Ytnkpaockginooaa
open Go.RowKit Go.Sort
theorem may_ok {f : Nat} {t : Tr} {c c' : Int × Int} (h : headOk f t c.1 c.2) (hk : kidsF (mayF f) t.ks (c.1 + 1, c.2 + t.ps.length) = some c') (hn : (t.ks.map Tr.nm).Nodup) : mayF (f + 1) t c = some c' := by
  unfold mayF
  rw [if_pos h, hk]
  simp only [Option.bind_some, if_pos hn]
theorem sg_ok : ∀ d, d < 16 → letterB (sg d) = true ∧ 0 ≤ sg d ∧ sg d < 256 := by decide
theorem hexF_let : ∀ (f n : Nat), ∀ y ∈ hexF f n, letterB y = true ∧ 0 ≤ y ∧ y < 256
  | 0, n, y, hy => by simp [hexF] at hy
  | f + 1, n, y, hy => by
    unfold hexF at hy
    split at hy <;> simp only [List.mem_append, List.mem_cons, List.not_mem_nil, or_false] at hy
    all_goals first
      | (subst hy; exact sg_ok _ (by omega))
      | (rcases hy with hy | hy <;> first | exact hexF_let f _ y hy | (subst hy; exact sg_ok _ (by omega)))
theorem strB_nums {l : List Int} (h : BytesOk l) : strB (strOfNums l) = l := by
  unfold strB
  rw [strOfNums_data, List.map_map]
  refine List.map_congr_left (g := id) (fun x hx => ?_) |>.trans (List.map_id l)
  have := h x hx
  simp only [Function.comp, id]
  have e : x.toNat < 256 := by omega
  rw [UInt8.toNat_ofNat_of_lt' (by simpa using e)]
  omega
theorem atN_name {l : List Int} (n : Nat) (hl : l.all (fun y => letterB y && decide (0 ≤ y) && decide (y < 256)) = true) (hn : l.length ≤ 6) : nameB (strOfNums (atN l n)) ofN = true := by
  have hb : ∀ y ∈ atN l n, signB ofN y = true ∧ 0 ≤ y ∧ y < 256 := fun y hy => by
    unfold atN at hy
    simp only [List.mem_append, List.mem_singleton] at hy
    rcases hy with (hy | rfl) | hy
    · have := List.all_eq_true.1 hl y hy
      simp only [Bool.and_eq_true, decide_eq_true_eq] at this
      exact ⟨by unfold signB; rw [this.1.1]; rfl, this.1.2, this.2⟩
    · exact ⟨by decide, by decide, by decide⟩
    · have := hexF_let 16 n y hy
      exact ⟨by unfold signB; rw [this.1]; rfl, this.2⟩
  have hs : strB (strOfNums (atN l n)) = atN l n := strB_nums fun y hy => (hb y hy).2
  have hle := atN_len l n
  have hge : 1 ≤ (atN l n).length := by simp [atN]; omega
  unfold nameB
  rw [hs, strOfNums_size]
  simp only [Bool.and_eq_true, decide_eq_true_eq, List.all_eq_true]
  exact ⟨⟨fun y hy => (hb y hy).1, hge⟩, by omega⟩
theorem cpu_may (i : Nat) (c : Int × Int) (h1 : c.1 + 1 ≤ 200) (h2 : c.2 + 1 ≤ 1000) : mayF 6 (cpuT i) c = some (c.1 + 1, c.2 + 1) := by
  refine may_ok (f := 5) ⟨h1, h2, ?_, ?_, ?_, ?_⟩ rfl ?_
  · exact atN_name i (by decide) (by decide)
  · show [((⟨#[114, 101, 103]⟩, [(i : Int)].flatMap (bytesN 4 false)) : Pr)].all prOk = true
    simp only [List.all_cons, List.all_nil, Bool.and_true, prOk, Bool.and_eq_true, decide_eq_true_eq]
    exact ⟨by decide, by simp [bytesN_len]⟩
  · show [_].Nodup
    simp
  · show 0 ≤ 200
    decide
  · show [].Nodup
    simp
theorem cpus_may : ∀ (l : List Nat) (c : Int × Int), c.1 + l.length ≤ 200 → c.2 + l.length ≤ 1000 → kidsF (mayF 6) (l.map cpuT) c = some (c.1 + l.length, c.2 + l.length)
  | [], c, _, _ => by simp [kidsF]
  | i :: l, c, h1, h2 => by
    simp only [List.length_cons] at h1 h2
    simp only [List.map_cons, kidsF]
    rw [cpu_may i c (by omega) (by omega)]
    simp only [Option.bind_some]
    rw [cpus_may l _ (by simp only; omega) (by simp only; omega)]
    simp only [List.length_cons, Option.some.injEq, Prod.mk.injEq]
    omega
theorem cpu_names : ∀ n, n < 33 → (((List.range n).map cpuT).map Tr.nm).Nodup := by decide +kernel
end Go.Proofs.Ytnkpaockginooaa
namespace Go.Proofs.Ytnkpaockginooaa
open Go.RowKit Go.Sort
theorem stretch_may (l : List Int) (b s : Int) (c : Int × Int) (hl : l.all (fun y => letterB y && decide (0 ≤ y) && decide (y < 256)) = true) (hn : l.length ≤ 6) (h1 : c.1 + 1 ≤ 200) (h2 : c.2 + 1 ≤ 1000) : mayF 7 (stretchT l b s) c = some (c.1 + 1, c.2 + 1) := by
  refine may_ok (f := 6) ⟨h1, h2, ?_, ?_, ?_, ?_⟩ rfl ?_
  · exact atN_name b.toNat hl hn
  · show [regP b s].all prOk = true
    simp only [List.all_cons, List.all_nil, Bool.and_true, prOk, regP, Bool.and_eq_true, decide_eq_true_eq]
    exact ⟨by decide, by simp [bytesN_len]⟩
  · show [_].Nodup
    simp
  · show 0 ≤ 200
    decide
  · show [].Nodup
    simp
theorem cpusT_may (n : Nat) (hn : n ≤ 32) : mayF 7 (cpusT n) (1, 3) = some (2 + (n : Int), 3 + (n : Int)) := by
  refine may_ok (f := 6) (t := cpusT n) (c := (1, 3)) ⟨by decide, ?_, ?_, ?_, ?_, ?_⟩ ?_ (cpu_names n (by omega))
  · exact (show (3 : Int) + ((0 : Nat) : Int) ≤ 1000 by decide)
  · exact (show nmOk 6 ⟨#[99, 112, 117, 115]⟩ = true by decide)
  · rfl
  · exact List.nodup_nil
  · show ((List.range n).map cpuT).length ≤ 200
    rw [List.length_map, List.length_range]
    omega
  · have h := cpus_may (List.range n) (2, 3) (by rw [List.length_range]; simp only; omega) (by rw [List.length_range]; simp only; omega)
    rw [List.length_range] at h
    exact h
theorem nums_head {a b : Int} {l m : List Int} (ha : 0 ≤ a ∧ a < 256) (hb : 0 ≤ b ∧ b < 256) (hne : a ≠ b) : strOfNums (a :: l) ≠ strOfNums (b :: m) := fun e => by
  have h := congrArg (fun s : ByteArray => s.data.toList.head?) e
  simp only [strOfNums_data, List.map_cons, List.head?_cons, Option.some.injEq] at h
  have h2 := congrArg UInt8.toNat h
  rw [UInt8.toNat_ofNat_of_lt' (by simpa using (show a.toNat < 256 by omega)), UInt8.toNat_ofNat_of_lt' (by simpa using (show b.toNat < 256 by omega))] at h2
  omega
theorem host_may {x : Bd} (h : x.cpus.toNat ≤ 32) : mayT (hostT x) = true := by
  have hm : mayF 8 (hostT x) (0, 0) = some (2 + (x.cpus.toNat : Int) + 1 + 1, 3 + (x.cpus.toNat : Int) + 1 + 1) := by
    refine may_ok (f := 7) (t := hostT x) (c := (0, 0)) ⟨by decide, ?_, ?_, ?_, ?_, ?_⟩ ?_ ?_
    · exact (show (0 : Int) + ((3 : Nat) : Int) ≤ 1000 by decide)
    · exact (show nmOk 7 ⟨#[]⟩ = true by decide)
    · show [hcompP, irqsP x.irqs, strsP x.strs].all prOk = true
      simp only [List.all_cons, List.all_nil, Bool.and_true, prOk, irqsP, strsP, Bool.and_eq_true, decide_eq_true_eq]
      exact ⟨⟨by decide, by decide⟩, ⟨by decide, by simp [bytesN_len]⟩, ⟨by decide, by simp [bytesN_len]⟩⟩
    · exact (show [(⟨#[99, 111, 109, 112, 97, 116, 105, 98, 108, 101]⟩ : ByteArray), ⟨#[105, 114, 113, 115]⟩, ⟨#[115, 116, 114, 101, 97, 109, 115]⟩].Nodup by decide)
    · exact (show 3 ≤ 200 by decide)
    · show kidsF (mayF 7) [cpusT x.cpus.toNat, stretchT [109, 101, 109, 111, 114, 121] x.rb x.rs, stretchT [108, 111, 97, 100, 101, 114] x.lb x.ls] (1, 3) = _
      simp only [kidsF]
      rw [cpusT_may _ h]
      simp only [Option.bind_some]
      rw [stretch_may _ _ _ _ (by decide) (by decide) (by simp only; omega) (by simp only; omega)]
      simp only [Option.bind_some]
      rw [stretch_may _ _ _ _ (by decide) (by decide) (by simp only; omega) (by simp only; omega)]
      rfl
    · show [(⟨#[99, 112, 117, 115]⟩ : ByteArray), strOfNums (atN [109, 101, 109, 111, 114, 121] x.rb.toNat), strOfNums (atN [108, 111, 97, 100, 101, 114] x.lb.toNat)].Nodup
      have a1 := nums_head (a := 99) (b := 109) (l := [112, 117, 115]) (m := [101, 109, 111, 114, 121] ++ [64] ++ hexN x.rb.toNat) (by decide) (by decide) (by decide)
      have a2 := nums_head (a := 99) (b := 108) (l := [112, 117, 115]) (m := [111, 97, 100, 101, 114] ++ [64] ++ hexN x.lb.toNat) (by decide) (by decide) (by decide)
      have a3 := nums_head (a := 109) (b := 108) (l := [101, 109, 111, 114, 121] ++ [64] ++ hexN x.rb.toNat) (m := [111, 97, 100, 101, 114] ++ [64] ++ hexN x.lb.toNat) (by decide) (by decide) (by decide)
      have e : strOfNums [99, 112, 117, 115] = ⟨#[99, 112, 117, 115]⟩ := by decide
      rw [e] at a1 a2
      simp only [List.nodup_cons, List.mem_cons, List.not_mem_nil, or_false, not_or, List.nodup_nil, and_true, not_false_eq_true]
      exact ⟨⟨a1, a2⟩, a3⟩
  unfold mayT
  rw [hm]
  rfl
theorem host_put {x : Bd} (h : x.cpus.toNat ≤ 32) : (putT (hostT x)).2 = 0 := by
  unfold putT
  rw [if_pos (host_may h), if_neg (by have := host_short h; omega)]
end Go.Proofs.Ytnkpaockginooaa
