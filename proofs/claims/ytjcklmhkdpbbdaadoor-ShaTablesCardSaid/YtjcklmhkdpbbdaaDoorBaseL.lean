/- The frame of a law whose row lists the two tables of the hash: what they hold is known when the call begins. -/
import Derived.Test.YtjcklmhkdpbbdaaDoorWords
import Derived.Test.YtjcklmhkdpbbdaaDoorCards
import Derived.Test.YtjcklmhkdpbbdaaDoorTie
import Derived.LaidMore
import Derived.Stop.LaidErr
import Derived.Lib.LaidTab
import Derived.SevenTiedAt
namespace Go.Proofs.YtjcklmhkdpbbdaaDoor
set_option linter.unusedVariables false
open Go.ChangeShapes Go.WideShapes Go.ChangeAt Go.RowKit

def firstZ : List Int := [1779033703, 3144134277, 1013904242, 2773480762, 1359893119, 2600822924, 528734635, 1541459225]
def roundsZ : List Int := [1116352408, 1899447441, 3049323471, 3921009573, 961987163, 1508970993, 2453635748, 2870763221, 3624381080, 310598401, 607225278, 1426881987, 1925078388, 2162078206, 2614888103, 3248222580, 3835390401, 4022224774, 264347078, 604807628, 770255983, 1249150122, 1555081692, 1996064986, 2554220882, 2821834349, 2952996808, 3210313671, 3336571891, 3584528711, 113926993, 338241895, 666307205, 773529912, 1294757372, 1396182291, 1695183700, 1986661051, 2177026350, 2456956037, 2730485921, 2820302411, 3259730800, 3345764771, 3516065817, 3600352804, 4094571909, 275423344, 430227734, 506948616, 659060556, 883997877, 958139571, 1322822218, 1537002063, 1747873779, 1955562222, 2024104815, 2227730452, 2361852424, 2428436474, 2756734187, 3204031479, 3329325298]
theorem gFirst : Tryd.prog.globalNamed "portreeve/sha.first" = some 0 := by kernel_rfl
theorem gRounds : Tryd.prog.globalNamed "portreeve/sha.rounds" = some 1 := by kernel_rfl
theorem tFirst : (Tryd.prog.globals[0]?).map (·.type) = some 35 := by kernel_rfl
theorem tRounds : (Tryd.prog.globals[1]?).map (·.type) = some 71 := by kernel_rfl
/-- The list of both tables. -/
abbrev laidL : List (String × DataW Unit) := [("portreeve/sha.first", Rows.laid_portreeve_sha_first), ("portreeve/sha.rounds", Rows.laid_portreeve_sha_rounds)]

/-- The two tables lie where they lie at first. -/
structure Tabs (w : World) : Prop where
  first : ∀ i, i < 8 → w.cell? ⟨0, i, none⟩ = some (.int .u32 (firstZ.getD i 0))
  rounds : ∀ i, i < 64 → w.cell? ⟨1, i, none⟩ = some (.int .u32 (roundsZ.getD i 0))
  size : 2 ≤ w.heap.size
theorem Tabs.below {w w' : World} {B : Nat} (h : Tabs w) (hb : Below B w w') (hB : 2 ≤ B) : Tabs w' :=
  ⟨fun i hi => (hb.cell (p := ⟨0, i, none⟩) (by show 0 < B; omega)).trans (h.first i hi), fun i hi => (hb.cell (p := ⟨1, i, none⟩) (by show 1 < B; omega)).trans (h.rounds i hi), Nat.le_trans h.size hb.size⟩
theorem Tabs.kept {w w' : World} (h : Tabs w) (hb : Below w.heap.size w w') : Tabs w' := h.below hb h.size
theorem Tabs.drew {w : World} (h : Tabs w) : Tabs w.drew := ⟨h.first, h.rounds, h.size⟩
theorem Tabs.alloc {w : World} (h : Tabs w) (o : Obj) : Tabs (w.alloc o) := h.kept ((Below.refl _ w).alloc (Nat.le_refl _) o)
theorem Tabs.of_laid {W : World} (h : laidMet Tryd.prog laidL W) : Tabs W := by
  have h1 : Lib.TabIs Tryd.prog W "portreeve/sha.first" .u32 firstZ := Lib.tabIs_of_head gFirst tFirst Tryd.underlying35 Tryd.underlying34 (by kernel_rfl) (by kernel_rfl) h
  have h2 : Lib.TabIs Tryd.prog W "portreeve/sha.rounds" .u32 roundsZ := Lib.tabIs_of_head gRounds tRounds Tryd.underlying71 Tryd.underlying34 (by kernel_rfl) (by kernel_rfl) h.tail
  refine ⟨fun i hi => h1.cell gFirst i hi, fun i hi => h2.cell gRounds i hi, ?_⟩
  have := h2.cell gRounds 0 (by decide)
  rcases Nat.lt_or_ge 1 W.heap.size with hlt | hge
  · omega
  · simp [World.cell?, Array.getElem?_eq_none hge] at this

section frame
variable {H : Type} {enc : TypeId × Value → H}
/-- What a law's walk owes: whatever the arguments, read as data, the tables laid. -/
def LawWalkL (P : Program) (f : FuncId) (fn : Func) : Prop :=
  ∀ (H : Type) (enc : TypeId × Value → H) (W : World) (base : Nat) (args : Array Value) (ds : List (DataW H)) (p : List MemPlace),
    (∀ (j : Nat) t v, fn.params[j]? = some t → args[j]? = some v → Value.okWide P W .any base t v) →
    DataW.TrodAll enc P W 0 (fun _ => true) true fn.params.toList args.toList ds p → (∀ x ∈ p, x.block < W.heap.size) → W.noneFrozen p →
    (DataW.weightsEach P fn.params.toList ds).all (· ≤ reachBytes) = true → Tabs W →
    Calls P f args W fun e W' => e = .returned (.bool true) ∧ Below W.heap.size W W'

theorem laid_witness {os : Os} {f : FuncId} {fn : Func} {s : ChangeSpec} (args : Array Value)
    (hok : Input.okWideB Tryd.checked.prog ((World.doorLaid Tryd.prog 19 os).forCall (fun _ _ => 0) ⟨#[], args, []⟩) f ⟨#[], args, []⟩ = true)
    (hpre : s.preB enc Tryd.checked.prog fn [] false ((World.doorLaid Tryd.prog 19 os).forCall (fun _ _ => 0) ⟨#[], args, []⟩).memory args 8 = true)
    (hsz : s.sizedB enc Tryd.checked.prog fn false ((World.doorLaid Tryd.prog 19 os).forCall (fun _ _ => 0) ⟨#[], args, []⟩).memory args 8 = true)
    (hl : laidMetH Tryd.prog laidL ((World.doorLaid Tryd.prog 19 os).forCall (fun _ _ => 0) ⟨#[], args, []⟩).memory)
    (hsh : ((World.doorLaid Tryd.prog 19 os).forCall (fun _ _ => 0) ⟨#[], args, []⟩).Shaped Tryd.checked.prog) :
    ∃ (w : World) (tape : Tape) (i : Input), w.os = os ∧ (w.forCall tape i).Shaped Tryd.checked.prog ∧ i.vars = [] ∧ Input.okWide Tryd.checked.prog (w.forCall tape i) .any w.heap.size f i ∧
      ((s.pre enc Tryd.checked.prog fn [] false (w.forCall tape i).memory i.args ∧ laidMetH Tryd.prog laidL (w.forCall tape i).memory) ∧ sizedMet enc Tryd.checked.prog fn (OpenSpec.ofChange s) false (w.forCall tape i).memory i.args) ∧ ({} : Assume).holds Tryd.checked.prog (lone (Frame.enter Tryd.checked.prog f i.args .normal) [] (w.forCall tape i)) :=
  ChangeSpec.witness_shaped (X := fun w _ => laidMetH Tryd.prog laidL w) false (World.doorLaid Tryd.prog 19 os) args 8 rfl hsh hok hpre hsz hl

set_option maxRecDepth 100000 in
/-- The step of a law's row. -/
theorem law_liftedL {os : Os} (started : os.Started) {f : FuncId} {fn : Func} {s : ChangeSpec} {tb : TypeId} (own : ownKnob Tryd.checked.prog.godebug = none) (hl : laidOutB Tryd.checked.prog = true)
    (noInit : Tryd.checked.prog.inits.idxOf? f = none) (hfn : Tryd.checked.prog.funcs[f]? = some fn) (hv : s.vars = [])
    {n : Nat} (hn : fn.params.size = n)
    (hs : ∀ ds : List (DataW H), ds.length = n → s.fn H ds = { results := [.lit (.bool true)], args := ds })
    (hrt : fn.resultTypes = #[tb]) (hub : Tryd.checked.prog.underlying tb = some .bool)
    (hpar : (fn.params.toList.all fun t => Tryd.checked.prog.readableRec t && decide (t < Tryd.checked.prog.types.size)) = true)
    (witness : ∃ (w : World) (tape : Tape) (i : Input), w.os = os ∧ (w.forCall tape i).Shaped Tryd.checked.prog ∧ i.vars = [] ∧ Input.okWide Tryd.checked.prog (w.forCall tape i) .any w.heap.size f i ∧
      ((s.pre enc Tryd.checked.prog fn [] false (w.forCall tape i).memory i.args ∧ laidMetH Tryd.prog laidL (w.forCall tape i).memory) ∧ sizedMet enc Tryd.checked.prog fn (OpenSpec.ofChange s) false (w.forCall tape i).memory i.args) ∧ ({} : Assume).holds Tryd.checked.prog (lone (Frame.enter Tryd.checked.prog f i.args .normal) [] (w.forCall tape i)))
    (walk : LawWalkL Tryd.checked.prog f fn) :
    ReturnsInHanded {} Tryd.checked os f .any (fun w args => (s.pre enc Tryd.checked.prog fn [] false w args ∧ laidMetH Tryd.prog laidL w) ∧ sizedMet enc Tryd.checked.prog fn (OpenSpec.ofChange s) false w args) (s.post enc Tryd.checked.prog fn false true false false) := by
  refine returnsInHanded_of_change_and (C := Tryd.checked) (X := fun w _ => laidMetH Tryd.prog laidL w) (fun _ _ _ hh h => h.of_heap hh) own started noInit hfn witness ?_
  intro W base args ds gs before hval hW _ hsz hL _
  have hT := Tabs.of_laid hL
  have hW' := hW
  have hlt := hW.lt
  obtain ⟨p, q, hA, hV, rfl, hfz, hnd⟩ := hW
  have hg : gs = [] ∧ q = [] := by
    rw [hv] at hV
    cases gs with
    | nil => exact ⟨rfl, hV⟩
    | cons g gs => exact hV.elim
  obtain ⟨rfl, rfl⟩ := hg
  have hpar' : ∀ t ∈ fn.params.toList, Tryd.checked.prog.readableRec t = true ∧ t < Tryd.checked.prog.types.size := fun t ht => by
    have := List.all_eq_true.1 hpar t ht
    simpa using this
  have hlen : ds.length = n := by
    rw [← hn]
    have key : ∀ (ts : List TypeId) (vs : List Value) (ds : List (DataW H)) (ps : List MemPlace), DataW.TrodAll enc Tryd.checked.prog W 0 (fun _ => true) true ts vs ds ps → ds.length = ts.length := by
      intro ts
      induction ts with
      | nil => intro vs ds ps h; obtain ⟨_, rfl, _⟩ := trodAll_nil h; rfl
      | cons t ts ih => intro vs ds ps h; obtain ⟨v, vs1, d, ds1, a, b, rfl, rfl, rfl, h1, h2⟩ := trodAll_cons h; simp [ih _ _ _ h2]
    simpa using key _ _ _ _ hA
  have hvt : s.plain.varTypes Tryd.checked.prog = [] := by simp [DataSpec.varTypes, ChangeSpec.plain, hv]
  rw [hvt] at hsz
  simp only [List.append_nil] at hsz hlt hfz
  refine (walk H enc W base args ds p hval hA hlt hfz hsz hT).mono fun e W' ⟨he, hb⟩ => ?_
  subst he
  refine ⟨_, rfl, post_of_below (pa := p) (pv := []) hW' (fun b sp hd => ?_) (fun sp hsp => ?_) (fun sp hsp => ?_) rfl hb ?_⟩
  · rw [hrt, List.append_nil, hs ds hlen]
    exact trodAll_mk1 (shut_bool hub true)
  · rw [List.append_nil, hs ds hlen]
    exact trodAll_stays hl hb hpar' hA hlt (fun x hx => hsp x (by simpa using hx))
  · rw [List.append_nil, hs ds hlen, hv]
    exact rfl
  · exact ok_one hrt rfl (okWide_bool_mk hub true)
end frame
end Go.Proofs.YtjcklmhkdpbbdaaDoor
