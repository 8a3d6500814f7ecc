/-
  No cell of these rows narrows 'for every input' (looked for: loops, veiled, ifaces, maps, wideKeys, modest, calm, conditions, laid).
  DERIVED. THE GIVEN ROWS OF THIS SEAT. 12 by the template 'for every input the law returns true; each argument reads behind the call as it read before'; 0 by the template 'total and deterministic' (their statements: YtdkhkpjepnmjnaaTotals.lean).
  GIVEN WITH THE SEED: the statements are not yours to turn. If you find one false, say at which input.
  Laid BY PROGRAM, IN A SANDBOX (cutbox-rows.mjs): the forced cells as the released guide's own fill.sh prints them over the translation 0a1d8573a937698b… (all of the seat's roots in one cut). By AI agents, Wed Nov 11 2026. No macro, syntax, notation, axiom, sorry.
-/
import Derived.Test.YtdkhkpjepnmjnaaChecked
import GoSem.Claim
import GoSem.ClaimJoined
import GoSem.ClaimMapViews
import Derived.JoinedTies
import Derived.KernelRfl
namespace Go.Proofs.Ytdkhkpjepnmjnaa
/- THE CELL 'sum', in the pinned program and in every row, IS THE sha256 OF THE DUMP (.gsa) THAT YtdkhkpjepnmjnaaProg.lean LOADS. Nothing in Lean hashes anything: it is a label: what it is worth is what the hold of that sum in a sandbox is worth. -/
noncomputable def Try.pinned : Pinned := { name := "ytdkhkpjepnmjnaa", sum := "0a1d8573a937698bdafd4cf8be469df0d94cab90a428e2b5a61afd78dcf80409", checked := Try.checked }
namespace Rows
def none {H : Type} : Left H := { results := [], args := [] }

/-- 'portreevelaw21.RegsApart': WHATEVER THE INPUT: true; the input reads as it did. -/
def regsApartSpec : ChangeSpec := { name := "regsApart", fn := fun _ => fun
  | [d1, d2, d3, d4] => { results := [.lit (.bool true)], args := [d1, d2, d3, d4] }
  | _ => none }
def regsApartRow : OpenClaim := { program := "ytdkhkpjepnmjnaa", sum := "0a1d8573a937698bdafd4cf8be469df0d94cab90a428e2b5a61afd78dcf80409", func := "portreeve/portreevelaw21.RegsApart", spec := "regsApart", apart := false }
def RegsApartSaid : Prop := regsApartRow.holds Try.pinned (OpenSpec.ofChange regsApartSpec)

/-- ITS FALSE NEIGHBOUR: 'it returns false'. Refute it at one input. -/
def regsApartWrong : ChangeSpec := { name := "regsApart", fn := fun _ => fun
  | [d1, d2, d3, d4] => { results := [.lit (.bool false)], args := [d1, d2, d3, d4] }
  | _ => none }
def RegsApartWrongFalsely : Prop := regsApartRow.holds Try.pinned (OpenSpec.ofChange regsApartWrong)

/-- 'portreevelaw21.RegsVtcr': WHATEVER THE INPUT: true; the input reads as it did. -/
def regsVtcrSpec : ChangeSpec := { name := "regsVtcr", fn := fun _ => fun
  | [d] => { results := [.lit (.bool true)], args := [d] }
  | _ => none }
def regsVtcrRow : OpenClaim := { program := "ytdkhkpjepnmjnaa", sum := "0a1d8573a937698bdafd4cf8be469df0d94cab90a428e2b5a61afd78dcf80409", func := "portreeve/portreevelaw21.RegsVtcr", spec := "regsVtcr", apart := false }
def RegsVtcrSaid : Prop := regsVtcrRow.holds Try.pinned (OpenSpec.ofChange regsVtcrSpec)

/-- ITS FALSE NEIGHBOUR: 'it returns false'. Refute it at one input. -/
def regsVtcrWrong : ChangeSpec := { name := "regsVtcr", fn := fun _ => fun
  | [d] => { results := [.lit (.bool false)], args := [d] }
  | _ => none }
def RegsVtcrWrongFalsely : Prop := regsVtcrRow.holds Try.pinned (OpenSpec.ofChange regsVtcrWrong)

/-- 'portreevelaw21.RegsVttbr': WHATEVER THE INPUT: true; the input reads as it did. -/
def regsVttbrSpec : ChangeSpec := { name := "regsVttbr", fn := fun _ => fun
  | [d1, d2, d3] => { results := [.lit (.bool true)], args := [d1, d2, d3] }
  | _ => none }
def regsVttbrRow : OpenClaim := { program := "ytdkhkpjepnmjnaa", sum := "0a1d8573a937698bdafd4cf8be469df0d94cab90a428e2b5a61afd78dcf80409", func := "portreeve/portreevelaw21.RegsVttbr", spec := "regsVttbr", apart := false }
def RegsVttbrSaid : Prop := regsVttbrRow.holds Try.pinned (OpenSpec.ofChange regsVttbrSpec)

/-- ITS FALSE NEIGHBOUR: 'it returns false'. Refute it at one input. -/
def regsVttbrWrong : ChangeSpec := { name := "regsVttbr", fn := fun _ => fun
  | [d1, d2, d3] => { results := [.lit (.bool false)], args := [d1, d2, d3] }
  | _ => none }
def RegsVttbrWrongFalsely : Prop := regsVttbrRow.holds Try.pinned (OpenSpec.ofChange regsVttbrWrong)

/-- 'portreevelaw12.SlotTells': WHATEVER THE INPUT: true; the input reads as it did. -/
def slotTellsSpec : ChangeSpec := { name := "slotTells", fn := fun _ => fun
  | [d1, d2, d3] => { results := [.lit (.bool true)], args := [d1, d2, d3] }
  | _ => none }
def slotTellsRow : OpenClaim := { program := "ytdkhkpjepnmjnaa", sum := "0a1d8573a937698bdafd4cf8be469df0d94cab90a428e2b5a61afd78dcf80409", func := "portreeve/portreevelaw12.SlotTells", spec := "slotTells", apart := false }
def SlotTellsSaid : Prop := slotTellsRow.holds Try.pinned (OpenSpec.ofChange slotTellsSpec)

/-- ITS FALSE NEIGHBOUR: 'it returns false'. Refute it at one input. -/
def slotTellsWrong : ChangeSpec := { name := "slotTells", fn := fun _ => fun
  | [d1, d2, d3] => { results := [.lit (.bool false)], args := [d1, d2, d3] }
  | _ => none }
def SlotTellsWrongFalsely : Prop := slotTellsRow.holds Try.pinned (OpenSpec.ofChange slotTellsWrong)

/-- 'portreevelaw21.RegsVcpus': WHATEVER THE INPUT: true; the input reads as it did. -/
def regsVcpusSpec : ChangeSpec := { name := "regsVcpus", fn := fun _ => fun
  | [d1, d2, d3] => { results := [.lit (.bool true)], args := [d1, d2, d3] }
  | _ => none }
def regsVcpusRow : OpenClaim := { program := "ytdkhkpjepnmjnaa", sum := "0a1d8573a937698bdafd4cf8be469df0d94cab90a428e2b5a61afd78dcf80409", func := "portreeve/portreevelaw21.RegsVcpus", spec := "regsVcpus", unfollowed := true, recurses := true, apart := false }
def RegsVcpusSaid : Prop := regsVcpusRow.holds Try.pinned (OpenSpec.ofChange regsVcpusSpec)

/-- ITS FALSE NEIGHBOUR: 'it returns false'. Refute it at one input. -/
def regsVcpusWrong : ChangeSpec := { name := "regsVcpus", fn := fun _ => fun
  | [d1, d2, d3] => { results := [.lit (.bool false)], args := [d1, d2, d3] }
  | _ => none }
def RegsVcpusWrongFalsely : Prop := regsVcpusRow.holds Try.pinned (OpenSpec.ofChange regsVcpusWrong)

/-- 'portreevelaw10.NvTears': WHATEVER THE INPUT: true; the input reads as it did. -/
def nvTearsSpec : ChangeSpec := { name := "nvTears", fn := fun _ => fun
  | [d1, d2, d3, d4] => { results := [.lit (.bool true)], args := [d1, d2, d3, d4] }
  | _ => none }
def nvTearsRow : OpenClaim := { program := "ytdkhkpjepnmjnaa", sum := "0a1d8573a937698bdafd4cf8be469df0d94cab90a428e2b5a61afd78dcf80409", func := "portreeve/portreevelaw10.NvTears", spec := "nvTears", apart := false }
def NvTearsSaid : Prop := nvTearsRow.holds Try.pinned (OpenSpec.ofChange nvTearsSpec)

/-- ITS FALSE NEIGHBOUR: 'it returns false'. Refute it at one input. -/
def nvTearsWrong : ChangeSpec := { name := "nvTears", fn := fun _ => fun
  | [d1, d2, d3, d4] => { results := [.lit (.bool false)], args := [d1, d2, d3, d4] }
  | _ => none }
def NvTearsWrongFalsely : Prop := nvTearsRow.holds Try.pinned (OpenSpec.ofChange nvTearsWrong)

/-- 'portreevelaw12.SlotSteps': WHATEVER THE INPUT: true; the input reads as it did. -/
def slotStepsSpec : ChangeSpec := { name := "slotSteps", fn := fun _ => fun
  | [d1, d2, d3] => { results := [.lit (.bool true)], args := [d1, d2, d3] }
  | _ => none }
def slotStepsRow : OpenClaim := { program := "ytdkhkpjepnmjnaa", sum := "0a1d8573a937698bdafd4cf8be469df0d94cab90a428e2b5a61afd78dcf80409", func := "portreeve/portreevelaw12.SlotSteps", spec := "slotSteps", apart := false }
def SlotStepsSaid : Prop := slotStepsRow.holds Try.pinned (OpenSpec.ofChange slotStepsSpec)

/-- ITS FALSE NEIGHBOUR: 'it returns false'. Refute it at one input. -/
def slotStepsWrong : ChangeSpec := { name := "slotSteps", fn := fun _ => fun
  | [d1, d2, d3] => { results := [.lit (.bool false)], args := [d1, d2, d3] }
  | _ => none }
def SlotStepsWrongFalsely : Prop := slotStepsRow.holds Try.pinned (OpenSpec.ofChange slotStepsWrong)

/-- 'portreevelaw12.SlotWhole': WHATEVER THE INPUT: true; the input reads as it did. -/
def slotWholeSpec : ChangeSpec := { name := "slotWhole", fn := fun _ => fun
  | [d1, d2, d3, d4, d5] => { results := [.lit (.bool true)], args := [d1, d2, d3, d4, d5] }
  | _ => none }
def slotWholeRow : OpenClaim := { program := "ytdkhkpjepnmjnaa", sum := "0a1d8573a937698bdafd4cf8be469df0d94cab90a428e2b5a61afd78dcf80409", func := "portreeve/portreevelaw12.SlotWhole", spec := "slotWhole", apart := false }
def SlotWholeSaid : Prop := slotWholeRow.holds Try.pinned (OpenSpec.ofChange slotWholeSpec)

/-- ITS FALSE NEIGHBOUR: 'it returns false'. Refute it at one input. -/
def slotWholeWrong : ChangeSpec := { name := "slotWhole", fn := fun _ => fun
  | [d1, d2, d3, d4, d5] => { results := [.lit (.bool false)], args := [d1, d2, d3, d4, d5] }
  | _ => none }
def SlotWholeWrongFalsely : Prop := slotWholeRow.holds Try.pinned (OpenSpec.ofChange slotWholeWrong)

/-- 'portreevelaw12.SlotTears': WHATEVER THE INPUT: true; the input reads as it did. -/
def slotTearsSpec : ChangeSpec := { name := "slotTears", fn := fun _ => fun
  | [d1, d2, d3, d4] => { results := [.lit (.bool true)], args := [d1, d2, d3, d4] }
  | _ => none }
def slotTearsRow : OpenClaim := { program := "ytdkhkpjepnmjnaa", sum := "0a1d8573a937698bdafd4cf8be469df0d94cab90a428e2b5a61afd78dcf80409", func := "portreeve/portreevelaw12.SlotTears", spec := "slotTears", apart := false }
def SlotTearsSaid : Prop := slotTearsRow.holds Try.pinned (OpenSpec.ofChange slotTearsSpec)

/-- ITS FALSE NEIGHBOUR: 'it returns false'. Refute it at one input. -/
def slotTearsWrong : ChangeSpec := { name := "slotTears", fn := fun _ => fun
  | [d1, d2, d3, d4] => { results := [.lit (.bool false)], args := [d1, d2, d3, d4] }
  | _ => none }
def SlotTearsWrongFalsely : Prop := slotTearsRow.holds Try.pinned (OpenSpec.ofChange slotTearsWrong)

/-- 'portreevelaw10.NvKeeps': WHATEVER THE INPUT: true; the input reads as it did. -/
def nvKeepsSpec : ChangeSpec := { name := "nvKeeps", fn := fun _ => fun
  | [d1, d2, d3, d4] => { results := [.lit (.bool true)], args := [d1, d2, d3, d4] }
  | _ => none }
def nvKeepsRow : OpenClaim := { program := "ytdkhkpjepnmjnaa", sum := "0a1d8573a937698bdafd4cf8be469df0d94cab90a428e2b5a61afd78dcf80409", func := "portreeve/portreevelaw10.NvKeeps", spec := "nvKeeps", apart := false }
def NvKeepsSaid : Prop := nvKeepsRow.holds Try.pinned (OpenSpec.ofChange nvKeepsSpec)

/-- ITS FALSE NEIGHBOUR: 'it returns false'. Refute it at one input. -/
def nvKeepsWrong : ChangeSpec := { name := "nvKeeps", fn := fun _ => fun
  | [d1, d2, d3, d4] => { results := [.lit (.bool false)], args := [d1, d2, d3, d4] }
  | _ => none }
def NvKeepsWrongFalsely : Prop := nvKeepsRow.holds Try.pinned (OpenSpec.ofChange nvKeepsWrong)

/-- 'portreevelaw35.TrapSame': WHATEVER THE INPUT: true; the input reads as it did. -/
def trapSameSpec : ChangeSpec := { name := "trapSame", fn := fun _ => fun
  | [d1, d2] => { results := [.lit (.bool true)], args := [d1, d2] }
  | _ => none }
def trapSameRow : OpenClaim := { program := "ytdkhkpjepnmjnaa", sum := "0a1d8573a937698bdafd4cf8be469df0d94cab90a428e2b5a61afd78dcf80409", func := "portreeve/portreevelaw35.TrapSame", spec := "trapSame", apart := false }
def TrapSameSaid : Prop := trapSameRow.holds Try.pinned (OpenSpec.ofChange trapSameSpec)

/-- ITS FALSE NEIGHBOUR: 'it returns false'. Refute it at one input. -/
def trapSameWrong : ChangeSpec := { name := "trapSame", fn := fun _ => fun
  | [d1, d2] => { results := [.lit (.bool false)], args := [d1, d2] }
  | _ => none }
def TrapSameWrongFalsely : Prop := trapSameRow.holds Try.pinned (OpenSpec.ofChange trapSameWrong)

/-- 'portreevelaw10.NvDoes': WHATEVER THE INPUT: true; the input reads as it did. -/
def nvDoesSpec : ChangeSpec := { name := "nvDoes", fn := fun _ => fun
  | [d1, d2, d3] => { results := [.lit (.bool true)], args := [d1, d2, d3] }
  | _ => none }
def nvDoesRow : OpenClaim := { program := "ytdkhkpjepnmjnaa", sum := "0a1d8573a937698bdafd4cf8be469df0d94cab90a428e2b5a61afd78dcf80409", func := "portreeve/portreevelaw10.NvDoes", spec := "nvDoes", apart := false }
def NvDoesSaid : Prop := nvDoesRow.holds Try.pinned (OpenSpec.ofChange nvDoesSpec)

/-- ITS FALSE NEIGHBOUR: 'it returns false'. Refute it at one input. -/
def nvDoesWrong : ChangeSpec := { name := "nvDoes", fn := fun _ => fun
  | [d1, d2, d3] => { results := [.lit (.bool false)], args := [d1, d2, d3] }
  | _ => none }
def NvDoesWrongFalsely : Prop := nvDoesRow.holds Try.pinned (OpenSpec.ofChange nvDoesWrong)

/- THE SECOND FORM. 'bulk': how many values and letters a reading holds, each counted each time it is reached (what is shared counts as often as it is met; a slice's spare places count too). A statement '..UptoSaid' is the law's where the arguments, and the package variables that the reading takes, are together of bulk at most 1048576: NARROWER than '..Said'. Prove '..Said' where nothing that the law and all that it calls make is longer than what came in: it says more and counts as full. Else prove '..UptoSaid'. A law counts once. -/
mutual
def uptoBulk {H : Type} : DataW H → Nat
  | .lit (.string bytes) => bytes.length + 1
  | .lit _ => 1
  | .nil => 1
  | .ptr d => uptoBulk d + 1
  | .slice elems spare => uptoBulkAll elems + uptoBulkAll spare + 1
  | .agg parts => uptoBulkAll parts + 1
  | .iface _ d => uptoBulk d + 1
  | .map entries => uptoBulkEntries entries + 1
  | .held _ => 1
def uptoBulkAll {H : Type} : List (DataW H) → Nat
  | [] => 0
  | d :: r => uptoBulk d + uptoBulkAll r
def uptoBulkEntries {H : Type} : List (Lit × DataW H) → Nat
  | [] => 0
  | x :: r => uptoBulkEntry x + uptoBulkEntries r
def uptoBulkEntry {H : Type} : Lit × DataW H → Nat
  | (.string bytes, d) => bytes.length + uptoBulk d + 1
  | (_, d) => uptoBulk d + 1
 end
def uptoSmall : (H : Type) → List (DataW H) → Bool := fun _ ds => decide (uptoBulkAll ds ≤ 1048576)
def OpenSpec.upto (s : _root_.Go.ChangeSpec) : _root_.Go.OpenSpec := { _root_.Go.OpenSpec.ofChange s with cond := some uptoSmall }

/-- 'portreevelaw21.RegsApart', WHERE WHAT IT READS IS OF BULK AT MOST 1048576: true; the input reads as it did. -/
def regsApartUptoRow : OpenClaim := { program := "ytdkhkpjepnmjnaa", sum := "0a1d8573a937698bdafd4cf8be469df0d94cab90a428e2b5a61afd78dcf80409", func := "portreeve/portreevelaw21.RegsApart", spec := "regsApart", apart := false, narrowed := true }
def RegsApartUptoSaid : Prop := regsApartUptoRow.holds Try.pinned (OpenSpec.upto regsApartSpec)

/-- 'portreevelaw21.RegsVtcr', WHERE WHAT IT READS IS OF BULK AT MOST 1048576: true; the input reads as it did. -/
def regsVtcrUptoRow : OpenClaim := { program := "ytdkhkpjepnmjnaa", sum := "0a1d8573a937698bdafd4cf8be469df0d94cab90a428e2b5a61afd78dcf80409", func := "portreeve/portreevelaw21.RegsVtcr", spec := "regsVtcr", apart := false, narrowed := true }
def RegsVtcrUptoSaid : Prop := regsVtcrUptoRow.holds Try.pinned (OpenSpec.upto regsVtcrSpec)

/-- 'portreevelaw21.RegsVttbr', WHERE WHAT IT READS IS OF BULK AT MOST 1048576: true; the input reads as it did. -/
def regsVttbrUptoRow : OpenClaim := { program := "ytdkhkpjepnmjnaa", sum := "0a1d8573a937698bdafd4cf8be469df0d94cab90a428e2b5a61afd78dcf80409", func := "portreeve/portreevelaw21.RegsVttbr", spec := "regsVttbr", apart := false, narrowed := true }
def RegsVttbrUptoSaid : Prop := regsVttbrUptoRow.holds Try.pinned (OpenSpec.upto regsVttbrSpec)

/-- 'portreevelaw12.SlotTells', WHERE WHAT IT READS IS OF BULK AT MOST 1048576: true; the input reads as it did. -/
def slotTellsUptoRow : OpenClaim := { program := "ytdkhkpjepnmjnaa", sum := "0a1d8573a937698bdafd4cf8be469df0d94cab90a428e2b5a61afd78dcf80409", func := "portreeve/portreevelaw12.SlotTells", spec := "slotTells", apart := false, narrowed := true }
def SlotTellsUptoSaid : Prop := slotTellsUptoRow.holds Try.pinned (OpenSpec.upto slotTellsSpec)

/-- 'portreevelaw21.RegsVcpus', WHERE WHAT IT READS IS OF BULK AT MOST 1048576: true; the input reads as it did. -/
def regsVcpusUptoRow : OpenClaim := { program := "ytdkhkpjepnmjnaa", sum := "0a1d8573a937698bdafd4cf8be469df0d94cab90a428e2b5a61afd78dcf80409", func := "portreeve/portreevelaw21.RegsVcpus", spec := "regsVcpus", unfollowed := true, recurses := true, apart := false, narrowed := true }
def RegsVcpusUptoSaid : Prop := regsVcpusUptoRow.holds Try.pinned (OpenSpec.upto regsVcpusSpec)

/-- 'portreevelaw10.NvTears', WHERE WHAT IT READS IS OF BULK AT MOST 1048576: true; the input reads as it did. -/
def nvTearsUptoRow : OpenClaim := { program := "ytdkhkpjepnmjnaa", sum := "0a1d8573a937698bdafd4cf8be469df0d94cab90a428e2b5a61afd78dcf80409", func := "portreeve/portreevelaw10.NvTears", spec := "nvTears", apart := false, narrowed := true }
def NvTearsUptoSaid : Prop := nvTearsUptoRow.holds Try.pinned (OpenSpec.upto nvTearsSpec)

/-- 'portreevelaw12.SlotSteps', WHERE WHAT IT READS IS OF BULK AT MOST 1048576: true; the input reads as it did. -/
def slotStepsUptoRow : OpenClaim := { program := "ytdkhkpjepnmjnaa", sum := "0a1d8573a937698bdafd4cf8be469df0d94cab90a428e2b5a61afd78dcf80409", func := "portreeve/portreevelaw12.SlotSteps", spec := "slotSteps", apart := false, narrowed := true }
def SlotStepsUptoSaid : Prop := slotStepsUptoRow.holds Try.pinned (OpenSpec.upto slotStepsSpec)

/-- 'portreevelaw12.SlotWhole', WHERE WHAT IT READS IS OF BULK AT MOST 1048576: true; the input reads as it did. -/
def slotWholeUptoRow : OpenClaim := { program := "ytdkhkpjepnmjnaa", sum := "0a1d8573a937698bdafd4cf8be469df0d94cab90a428e2b5a61afd78dcf80409", func := "portreeve/portreevelaw12.SlotWhole", spec := "slotWhole", apart := false, narrowed := true }
def SlotWholeUptoSaid : Prop := slotWholeUptoRow.holds Try.pinned (OpenSpec.upto slotWholeSpec)

/-- 'portreevelaw12.SlotTears', WHERE WHAT IT READS IS OF BULK AT MOST 1048576: true; the input reads as it did. -/
def slotTearsUptoRow : OpenClaim := { program := "ytdkhkpjepnmjnaa", sum := "0a1d8573a937698bdafd4cf8be469df0d94cab90a428e2b5a61afd78dcf80409", func := "portreeve/portreevelaw12.SlotTears", spec := "slotTears", apart := false, narrowed := true }
def SlotTearsUptoSaid : Prop := slotTearsUptoRow.holds Try.pinned (OpenSpec.upto slotTearsSpec)

/-- 'portreevelaw10.NvKeeps', WHERE WHAT IT READS IS OF BULK AT MOST 1048576: true; the input reads as it did. -/
def nvKeepsUptoRow : OpenClaim := { program := "ytdkhkpjepnmjnaa", sum := "0a1d8573a937698bdafd4cf8be469df0d94cab90a428e2b5a61afd78dcf80409", func := "portreeve/portreevelaw10.NvKeeps", spec := "nvKeeps", apart := false, narrowed := true }
def NvKeepsUptoSaid : Prop := nvKeepsUptoRow.holds Try.pinned (OpenSpec.upto nvKeepsSpec)

/-- 'portreevelaw35.TrapSame', WHERE WHAT IT READS IS OF BULK AT MOST 1048576: true; the input reads as it did. -/
def trapSameUptoRow : OpenClaim := { program := "ytdkhkpjepnmjnaa", sum := "0a1d8573a937698bdafd4cf8be469df0d94cab90a428e2b5a61afd78dcf80409", func := "portreeve/portreevelaw35.TrapSame", spec := "trapSame", apart := false, narrowed := true }
def TrapSameUptoSaid : Prop := trapSameUptoRow.holds Try.pinned (OpenSpec.upto trapSameSpec)

/-- 'portreevelaw10.NvDoes', WHERE WHAT IT READS IS OF BULK AT MOST 1048576: true; the input reads as it did. -/
def nvDoesUptoRow : OpenClaim := { program := "ytdkhkpjepnmjnaa", sum := "0a1d8573a937698bdafd4cf8be469df0d94cab90a428e2b5a61afd78dcf80409", func := "portreeve/portreevelaw10.NvDoes", spec := "nvDoes", apart := false, narrowed := true }
def NvDoesUptoSaid : Prop := nvDoesUptoRow.holds Try.pinned (OpenSpec.upto nvDoesSpec)

end Rows
end Go.Proofs.Ytdkhkpjepnmjnaa
