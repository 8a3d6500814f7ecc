/-
  No cell of these rows narrows 'for every input' (looked for: loops, veiled, ifaces, maps, wideKeys, modest, calm, conditions, laid).
  DERIVED. THE GIVEN ROWS OF THIS SEAT. 9 by the template 'for every input the law returns true; each argument reads behind the call as it read before'; 0 by the template 'total and deterministic' (their statements: YtmhbpfclfffgkaaTotals.lean).
  GIVEN WITH THE SEED: the statements are not yours to turn. If you find one false, say at which input.
  Laid BY PROGRAM, IN A SANDBOX (cutbox-rows.mjs): the forced cells as the released guide's own fill.sh prints them over the translation ee27a9e49b09efbd… (all of the seat's roots in one cut). By AI agents, Wed Nov 11 2026. No macro, syntax, notation, axiom, sorry.
-/
import Derived.Test.YtmhbpfclfffgkaaChecked
import GoSem.Claim
import GoSem.ClaimJoined
import GoSem.ClaimMapViews
import Derived.JoinedTies
import Derived.KernelRfl
namespace Go.Proofs.Ytmhbpfclfffgkaa
/- THE CELL 'sum', in the pinned program and in every row, IS THE sha256 OF THE DUMP (.gsa) THAT YtmhbpfclfffgkaaProg.lean LOADS. Nothing in Lean hashes anything: it is a label: what it is worth is what the hold of that sum in a sandbox is worth. -/
noncomputable def Try.pinned : Pinned := { name := "ytmhbpfclfffgkaa", sum := "ee27a9e49b09efbd402f709803435c01fcf4de220a5eaa255509a8ea71ac5856", checked := Try.checked }
namespace Rows
def none {H : Type} : Left H := { results := [], args := [] }

/-- 'portreevelaw14.CfgParses': WHATEVER THE INPUT: true; the input reads as it did. -/
def cfgParsesSpec : ChangeSpec := { name := "cfgParses", fn := fun _ => fun
  | [d] => { results := [.lit (.bool true)], args := [d] }
  | _ => none }
def cfgParsesRow : OpenClaim := { program := "ytmhbpfclfffgkaa", sum := "ee27a9e49b09efbd402f709803435c01fcf4de220a5eaa255509a8ea71ac5856", func := "portreeve/portreevelaw14.CfgParses", spec := "cfgParses", unfollowed := true, recurses := true, apart := false }
def CfgParsesSaid : Prop := cfgParsesRow.holds Try.pinned (OpenSpec.ofChange cfgParsesSpec)

/-- ITS FALSE NEIGHBOUR: 'it returns false'. Refute it at one input. -/
def cfgParsesWrong : ChangeSpec := { name := "cfgParses", fn := fun _ => fun
  | [d] => { results := [.lit (.bool false)], args := [d] }
  | _ => none }
def CfgParsesWrongFalsely : Prop := cfgParsesRow.holds Try.pinned (OpenSpec.ofChange cfgParsesWrong)

/-- 'portreevelaw14.CfgCuts': WHATEVER THE INPUT: true; the input reads as it did. -/
def cfgCutsSpec : ChangeSpec := { name := "cfgCuts", fn := fun _ => fun
  | [d1, d2, d3] => { results := [.lit (.bool true)], args := [d1, d2, d3] }
  | _ => none }
def cfgCutsRow : OpenClaim := { program := "ytmhbpfclfffgkaa", sum := "ee27a9e49b09efbd402f709803435c01fcf4de220a5eaa255509a8ea71ac5856", func := "portreeve/portreevelaw14.CfgCuts", spec := "cfgCuts", unfollowed := true, recurses := true, apart := false }
def CfgCutsSaid : Prop := cfgCutsRow.holds Try.pinned (OpenSpec.ofChange cfgCutsSpec)

/-- ITS FALSE NEIGHBOUR: 'it returns false'. Refute it at one input. -/
def cfgCutsWrong : ChangeSpec := { name := "cfgCuts", fn := fun _ => fun
  | [d1, d2, d3] => { results := [.lit (.bool false)], args := [d1, d2, d3] }
  | _ => none }
def CfgCutsWrongFalsely : Prop := cfgCutsRow.holds Try.pinned (OpenSpec.ofChange cfgCutsWrong)

/-- 'portreevelaw14.CfgTells': WHATEVER THE INPUT: true; the input reads as it did. -/
def cfgTellsSpec : ChangeSpec := { name := "cfgTells", fn := fun _ => fun
  | [d1, d2, d3] => { results := [.lit (.bool true)], args := [d1, d2, d3] }
  | _ => none }
def cfgTellsRow : OpenClaim := { program := "ytmhbpfclfffgkaa", sum := "ee27a9e49b09efbd402f709803435c01fcf4de220a5eaa255509a8ea71ac5856", func := "portreeve/portreevelaw14.CfgTells", spec := "cfgTells", unfollowed := true, recurses := true, apart := false }
def CfgTellsSaid : Prop := cfgTellsRow.holds Try.pinned (OpenSpec.ofChange cfgTellsSpec)

/-- ITS FALSE NEIGHBOUR: 'it returns false'. Refute it at one input. -/
def cfgTellsWrong : ChangeSpec := { name := "cfgTells", fn := fun _ => fun
  | [d1, d2, d3] => { results := [.lit (.bool false)], args := [d1, d2, d3] }
  | _ => none }
def CfgTellsWrongFalsely : Prop := cfgTellsRow.holds Try.pinned (OpenSpec.ofChange cfgTellsWrong)

/-- 'portreevelaw14.CfgPuts': WHATEVER THE INPUT: true; the input reads as it did. -/
def cfgPutsSpec : ChangeSpec := { name := "cfgPuts", fn := fun _ => fun
  | [d] => { results := [.lit (.bool true)], args := [d] }
  | _ => none }
def cfgPutsRow : OpenClaim := { program := "ytmhbpfclfffgkaa", sum := "ee27a9e49b09efbd402f709803435c01fcf4de220a5eaa255509a8ea71ac5856", func := "portreeve/portreevelaw14.CfgPuts", spec := "cfgPuts", unfollowed := true, recurses := true, apart := false }
def CfgPutsSaid : Prop := cfgPutsRow.holds Try.pinned (OpenSpec.ofChange cfgPutsSpec)

/-- ITS FALSE NEIGHBOUR: 'it returns false'. Refute it at one input. -/
def cfgPutsWrong : ChangeSpec := { name := "cfgPuts", fn := fun _ => fun
  | [d] => { results := [.lit (.bool false)], args := [d] }
  | _ => none }
def CfgPutsWrongFalsely : Prop := cfgPutsRow.holds Try.pinned (OpenSpec.ofChange cfgPutsWrong)

/-- 'portreevelaw14.CfgOnce': WHATEVER THE INPUT: true; the input reads as it did. -/
def cfgOnceSpec : ChangeSpec := { name := "cfgOnce", fn := fun _ => fun
  | [d] => { results := [.lit (.bool true)], args := [d] }
  | _ => none }
def cfgOnceRow : OpenClaim := { program := "ytmhbpfclfffgkaa", sum := "ee27a9e49b09efbd402f709803435c01fcf4de220a5eaa255509a8ea71ac5856", func := "portreeve/portreevelaw14.CfgOnce", spec := "cfgOnce", unfollowed := true, recurses := true, apart := false }
def CfgOnceSaid : Prop := cfgOnceRow.holds Try.pinned (OpenSpec.ofChange cfgOnceSpec)

/-- ITS FALSE NEIGHBOUR: 'it returns false'. Refute it at one input. -/
def cfgOnceWrong : ChangeSpec := { name := "cfgOnce", fn := fun _ => fun
  | [d] => { results := [.lit (.bool false)], args := [d] }
  | _ => none }
def CfgOnceWrongFalsely : Prop := cfgOnceRow.holds Try.pinned (OpenSpec.ofChange cfgOnceWrong)

/-- 'portreevelaw14.CfgBack': WHATEVER THE INPUT: true; the input reads as it did. -/
def cfgBackSpec : ChangeSpec := { name := "cfgBack", fn := fun _ => fun
  | [d] => { results := [.lit (.bool true)], args := [d] }
  | _ => none }
def cfgBackRow : OpenClaim := { program := "ytmhbpfclfffgkaa", sum := "ee27a9e49b09efbd402f709803435c01fcf4de220a5eaa255509a8ea71ac5856", func := "portreeve/portreevelaw14.CfgBack", spec := "cfgBack", unfollowed := true, recurses := true, apart := false }
def CfgBackSaid : Prop := cfgBackRow.holds Try.pinned (OpenSpec.ofChange cfgBackSpec)

/-- ITS FALSE NEIGHBOUR: 'it returns false'. Refute it at one input. -/
def cfgBackWrong : ChangeSpec := { name := "cfgBack", fn := fun _ => fun
  | [d] => { results := [.lit (.bool false)], args := [d] }
  | _ => none }
def CfgBackWrongFalsely : Prop := cfgBackRow.holds Try.pinned (OpenSpec.ofChange cfgBackWrong)

/-- 'portreevelaw31.TextNotes': WHATEVER THE INPUT: true; the input reads as it did. -/
def textNotesSpec : ChangeSpec := { name := "textNotes", fn := fun _ => fun
  | [d1, d2, d3] => { results := [.lit (.bool true)], args := [d1, d2, d3] }
  | _ => none }
def textNotesRow : OpenClaim := { program := "ytmhbpfclfffgkaa", sum := "ee27a9e49b09efbd402f709803435c01fcf4de220a5eaa255509a8ea71ac5856", func := "portreeve/portreevelaw31.TextNotes", spec := "textNotes", unfollowed := true, recurses := true, apart := false }
def TextNotesSaid : Prop := textNotesRow.holds Try.pinned (OpenSpec.ofChange textNotesSpec)

/-- ITS FALSE NEIGHBOUR: 'it returns false'. Refute it at one input. -/
def textNotesWrong : ChangeSpec := { name := "textNotes", fn := fun _ => fun
  | [d1, d2, d3] => { results := [.lit (.bool false)], args := [d1, d2, d3] }
  | _ => none }
def TextNotesWrongFalsely : Prop := textNotesRow.holds Try.pinned (OpenSpec.ofChange textNotesWrong)

/-- 'portreevelaw31.TextPrints': WHATEVER THE INPUT: true; the input reads as it did. -/
def textPrintsSpec : ChangeSpec := { name := "textPrints", fn := fun _ => fun
  | [d] => { results := [.lit (.bool true)], args := [d] }
  | _ => none }
def textPrintsRow : OpenClaim := { program := "ytmhbpfclfffgkaa", sum := "ee27a9e49b09efbd402f709803435c01fcf4de220a5eaa255509a8ea71ac5856", func := "portreeve/portreevelaw31.TextPrints", spec := "textPrints", unfollowed := true, recurses := true, apart := false }
def TextPrintsSaid : Prop := textPrintsRow.holds Try.pinned (OpenSpec.ofChange textPrintsSpec)

/-- ITS FALSE NEIGHBOUR: 'it returns false'. Refute it at one input. -/
def textPrintsWrong : ChangeSpec := { name := "textPrints", fn := fun _ => fun
  | [d] => { results := [.lit (.bool false)], args := [d] }
  | _ => none }
def TextPrintsWrongFalsely : Prop := textPrintsRow.holds Try.pinned (OpenSpec.ofChange textPrintsWrong)

/-- 'portreevelaw31.TextOnce': WHATEVER THE INPUT: true; the input reads as it did. -/
def textOnceSpec : ChangeSpec := { name := "textOnce", fn := fun _ => fun
  | [d] => { results := [.lit (.bool true)], args := [d] }
  | _ => none }
def textOnceRow : OpenClaim := { program := "ytmhbpfclfffgkaa", sum := "ee27a9e49b09efbd402f709803435c01fcf4de220a5eaa255509a8ea71ac5856", func := "portreeve/portreevelaw31.TextOnce", spec := "textOnce", unfollowed := true, recurses := true, apart := false }
def TextOnceSaid : Prop := textOnceRow.holds Try.pinned (OpenSpec.ofChange textOnceSpec)

/-- ITS FALSE NEIGHBOUR: 'it returns false'. Refute it at one input. -/
def textOnceWrong : ChangeSpec := { name := "textOnce", fn := fun _ => fun
  | [d] => { results := [.lit (.bool false)], args := [d] }
  | _ => none }
def TextOnceWrongFalsely : Prop := textOnceRow.holds Try.pinned (OpenSpec.ofChange textOnceWrong)

/- THE SECOND FORM. 'bulk': how many values and letters a reading holds, each counted each time it is reached (what is shared counts as often as it is met; a slice's spare places count too). A statement '..UptoSaid' is the law's where the arguments, and the package variables that the reading takes, are together of bulk at most 1048576: NARROWER than '..Said'. Prove '..Said' where nothing that the law and all that it calls make is longer than what came in: it says more and counts as full. Else prove '..UptoSaid'. A law counts once. -/
mutual
def uptoBulk {H : Type} : DataW H → Nat
  | .lit (.string bytes) => bytes.length + 1
  | .lit _ => 1
  | .nil => 1
  | .ptr d => uptoBulk d + 1
  | .slice elems spare => uptoBulkAll elems + uptoBulkAll spare + 1
  | .agg parts => uptoBulkAll parts + 1
  | .iface _ d => uptoBulk d + 1
  | .map entries => uptoBulkEntries entries + 1
  | .held _ => 1
def uptoBulkAll {H : Type} : List (DataW H) → Nat
  | [] => 0
  | d :: r => uptoBulk d + uptoBulkAll r
def uptoBulkEntries {H : Type} : List (Lit × DataW H) → Nat
  | [] => 0
  | x :: r => uptoBulkEntry x + uptoBulkEntries r
def uptoBulkEntry {H : Type} : Lit × DataW H → Nat
  | (.string bytes, d) => bytes.length + uptoBulk d + 1
  | (_, d) => uptoBulk d + 1
 end
def uptoSmall : (H : Type) → List (DataW H) → Bool := fun _ ds => decide (uptoBulkAll ds ≤ 1048576)
def OpenSpec.upto (s : _root_.Go.ChangeSpec) : _root_.Go.OpenSpec := { _root_.Go.OpenSpec.ofChange s with cond := some uptoSmall }

/-- 'portreevelaw14.CfgParses', WHERE WHAT IT READS IS OF BULK AT MOST 1048576: true; the input reads as it did. -/
def cfgParsesUptoRow : OpenClaim := { program := "ytmhbpfclfffgkaa", sum := "ee27a9e49b09efbd402f709803435c01fcf4de220a5eaa255509a8ea71ac5856", func := "portreeve/portreevelaw14.CfgParses", spec := "cfgParses", unfollowed := true, recurses := true, apart := false, narrowed := true }
def CfgParsesUptoSaid : Prop := cfgParsesUptoRow.holds Try.pinned (OpenSpec.upto cfgParsesSpec)

/-- 'portreevelaw14.CfgCuts', WHERE WHAT IT READS IS OF BULK AT MOST 1048576: true; the input reads as it did. -/
def cfgCutsUptoRow : OpenClaim := { program := "ytmhbpfclfffgkaa", sum := "ee27a9e49b09efbd402f709803435c01fcf4de220a5eaa255509a8ea71ac5856", func := "portreeve/portreevelaw14.CfgCuts", spec := "cfgCuts", unfollowed := true, recurses := true, apart := false, narrowed := true }
def CfgCutsUptoSaid : Prop := cfgCutsUptoRow.holds Try.pinned (OpenSpec.upto cfgCutsSpec)

/-- 'portreevelaw14.CfgTells', WHERE WHAT IT READS IS OF BULK AT MOST 1048576: true; the input reads as it did. -/
def cfgTellsUptoRow : OpenClaim := { program := "ytmhbpfclfffgkaa", sum := "ee27a9e49b09efbd402f709803435c01fcf4de220a5eaa255509a8ea71ac5856", func := "portreeve/portreevelaw14.CfgTells", spec := "cfgTells", unfollowed := true, recurses := true, apart := false, narrowed := true }
def CfgTellsUptoSaid : Prop := cfgTellsUptoRow.holds Try.pinned (OpenSpec.upto cfgTellsSpec)

/-- 'portreevelaw14.CfgPuts', WHERE WHAT IT READS IS OF BULK AT MOST 1048576: true; the input reads as it did. -/
def cfgPutsUptoRow : OpenClaim := { program := "ytmhbpfclfffgkaa", sum := "ee27a9e49b09efbd402f709803435c01fcf4de220a5eaa255509a8ea71ac5856", func := "portreeve/portreevelaw14.CfgPuts", spec := "cfgPuts", unfollowed := true, recurses := true, apart := false, narrowed := true }
def CfgPutsUptoSaid : Prop := cfgPutsUptoRow.holds Try.pinned (OpenSpec.upto cfgPutsSpec)

/-- 'portreevelaw14.CfgOnce', WHERE WHAT IT READS IS OF BULK AT MOST 1048576: true; the input reads as it did. -/
def cfgOnceUptoRow : OpenClaim := { program := "ytmhbpfclfffgkaa", sum := "ee27a9e49b09efbd402f709803435c01fcf4de220a5eaa255509a8ea71ac5856", func := "portreeve/portreevelaw14.CfgOnce", spec := "cfgOnce", unfollowed := true, recurses := true, apart := false, narrowed := true }
def CfgOnceUptoSaid : Prop := cfgOnceUptoRow.holds Try.pinned (OpenSpec.upto cfgOnceSpec)

/-- 'portreevelaw14.CfgBack', WHERE WHAT IT READS IS OF BULK AT MOST 1048576: true; the input reads as it did. -/
def cfgBackUptoRow : OpenClaim := { program := "ytmhbpfclfffgkaa", sum := "ee27a9e49b09efbd402f709803435c01fcf4de220a5eaa255509a8ea71ac5856", func := "portreeve/portreevelaw14.CfgBack", spec := "cfgBack", unfollowed := true, recurses := true, apart := false, narrowed := true }
def CfgBackUptoSaid : Prop := cfgBackUptoRow.holds Try.pinned (OpenSpec.upto cfgBackSpec)

/-- 'portreevelaw31.TextNotes', WHERE WHAT IT READS IS OF BULK AT MOST 1048576: true; the input reads as it did. -/
def textNotesUptoRow : OpenClaim := { program := "ytmhbpfclfffgkaa", sum := "ee27a9e49b09efbd402f709803435c01fcf4de220a5eaa255509a8ea71ac5856", func := "portreeve/portreevelaw31.TextNotes", spec := "textNotes", unfollowed := true, recurses := true, apart := false, narrowed := true }
def TextNotesUptoSaid : Prop := textNotesUptoRow.holds Try.pinned (OpenSpec.upto textNotesSpec)

/-- 'portreevelaw31.TextPrints', WHERE WHAT IT READS IS OF BULK AT MOST 1048576: true; the input reads as it did. -/
def textPrintsUptoRow : OpenClaim := { program := "ytmhbpfclfffgkaa", sum := "ee27a9e49b09efbd402f709803435c01fcf4de220a5eaa255509a8ea71ac5856", func := "portreeve/portreevelaw31.TextPrints", spec := "textPrints", unfollowed := true, recurses := true, apart := false, narrowed := true }
def TextPrintsUptoSaid : Prop := textPrintsUptoRow.holds Try.pinned (OpenSpec.upto textPrintsSpec)

/-- 'portreevelaw31.TextOnce', WHERE WHAT IT READS IS OF BULK AT MOST 1048576: true; the input reads as it did. -/
def textOnceUptoRow : OpenClaim := { program := "ytmhbpfclfffgkaa", sum := "ee27a9e49b09efbd402f709803435c01fcf4de220a5eaa255509a8ea71ac5856", func := "portreeve/portreevelaw31.TextOnce", spec := "textOnce", unfollowed := true, recurses := true, apart := false, narrowed := true }
def TextOnceUptoSaid : Prop := textOnceUptoRow.holds Try.pinned (OpenSpec.upto textOnceSpec)

end Rows
end Go.Proofs.Ytmhbpfclfffgkaa
