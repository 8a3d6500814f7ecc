/-
  No cell of these rows narrows 'for every input' (looked for: loops, veiled, ifaces, maps, wideKeys, modest, calm, conditions, laid).
  DERIVED. THE GIVEN ROWS OF THIS SEAT. 8 by the template 'for every input the law returns true; each argument reads behind the call as it read before'; 0 by the template 'total and deterministic' (their statements: YtnhlcfkjhacedaaTotals.lean).
  GIVEN WITH THE SEED: the statements are not yours to turn. If you find one false, say at which input.
  Laid BY PROGRAM, IN A SANDBOX (cutbox-rows.mjs): the forced cells as the released guide's own fill.sh prints them over the translation 080fe9ae994d2be7… (all of the seat's roots in one cut). By AI agents, Wed Nov 11 2026. No macro, syntax, notation, axiom, sorry.
-/
import Derived.Test.YtnhlcfkjhacedaaChecked
import GoSem.Claim
import GoSem.ClaimJoined
import GoSem.ClaimMapViews
import Derived.JoinedTies
import Derived.KernelRfl
namespace Go.Proofs.Ytnhlcfkjhacedaa
/- THE CELL 'sum', in the pinned program and in every row, IS THE sha256 OF THE DUMP (.gsa) THAT YtnhlcfkjhacedaaProg.lean LOADS. Nothing in Lean hashes anything: it is a label: what it is worth is what the hold of that sum in a sandbox is worth. -/
noncomputable def Try.pinned : Pinned := { name := "ytnhlcfkjhacedaa", sum := "080fe9ae994d2be7e30e7d7b46a08083fb08cb1a7bc7de92b46109fe83d5346a", checked := Try.checked }
namespace Rows
def none {H : Type} : Left H := { results := [], args := [] }

/-- 'portreevelaw21.RegsVcpus': WHATEVER THE INPUT: true; the input reads as it did. -/
def regsVcpusSpec : ChangeSpec := { name := "regsVcpus", fn := fun _ => fun
  | [d1, d2, d3] => { results := [.lit (.bool true)], args := [d1, d2, d3] }
  | _ => none }
def regsVcpusRow : OpenClaim := { program := "ytnhlcfkjhacedaa", sum := "080fe9ae994d2be7e30e7d7b46a08083fb08cb1a7bc7de92b46109fe83d5346a", func := "portreeve/portreevelaw21.RegsVcpus", spec := "regsVcpus", unfollowed := true, recurses := true, apart := false }
def RegsVcpusSaid : Prop := regsVcpusRow.holds Try.pinned (OpenSpec.ofChange regsVcpusSpec)

/-- ITS FALSE NEIGHBOUR: 'it returns false'. Refute it at one input. -/
def regsVcpusWrong : ChangeSpec := { name := "regsVcpus", fn := fun _ => fun
  | [d1, d2, d3] => { results := [.lit (.bool false)], args := [d1, d2, d3] }
  | _ => none }
def RegsVcpusWrongFalsely : Prop := regsVcpusRow.holds Try.pinned (OpenSpec.ofChange regsVcpusWrong)

/-- 'portreevelaw22.IrqRoutes': WHATEVER THE INPUT: true; the input reads as it did. -/
def irqRoutesSpec : ChangeSpec := { name := "irqRoutes", fn := fun _ => fun
  | [d1, d2, d3] => { results := [.lit (.bool true)], args := [d1, d2, d3] }
  | _ => none }
def irqRoutesRow : OpenClaim := { program := "ytnhlcfkjhacedaa", sum := "080fe9ae994d2be7e30e7d7b46a08083fb08cb1a7bc7de92b46109fe83d5346a", func := "portreeve/portreevelaw22.IrqRoutes", spec := "irqRoutes", unfollowed := true, recurses := true, apart := false }
def IrqRoutesSaid : Prop := irqRoutesRow.holds Try.pinned (OpenSpec.ofChange irqRoutesSpec)

/-- ITS FALSE NEIGHBOUR: 'it returns false'. Refute it at one input. -/
def irqRoutesWrong : ChangeSpec := { name := "irqRoutes", fn := fun _ => fun
  | [d1, d2, d3] => { results := [.lit (.bool false)], args := [d1, d2, d3] }
  | _ => none }
def IrqRoutesWrongFalsely : Prop := irqRoutesRow.holds Try.pinned (OpenSpec.ofChange irqRoutesWrong)

/-- 'portreevelaw22.IrqGic': WHATEVER THE INPUT: true; the input reads as it did. -/
def irqGicSpec : ChangeSpec := { name := "irqGic", fn := fun _ => fun
  | [d] => { results := [.lit (.bool true)], args := [d] }
  | _ => none }
def irqGicRow : OpenClaim := { program := "ytnhlcfkjhacedaa", sum := "080fe9ae994d2be7e30e7d7b46a08083fb08cb1a7bc7de92b46109fe83d5346a", func := "portreeve/portreevelaw22.IrqGic", spec := "irqGic", unfollowed := true, recurses := true, apart := false }
def IrqGicSaid : Prop := irqGicRow.holds Try.pinned (OpenSpec.ofChange irqGicSpec)

/-- ITS FALSE NEIGHBOUR: 'it returns false'. Refute it at one input. -/
def irqGicWrong : ChangeSpec := { name := "irqGic", fn := fun _ => fun
  | [d] => { results := [.lit (.bool false)], args := [d] }
  | _ => none }
def IrqGicWrongFalsely : Prop := irqGicRow.holds Try.pinned (OpenSpec.ofChange irqGicWrong)

/-- 'portreevelaw22.IrqOwners': WHATEVER THE INPUT: true; the input reads as it did. -/
def irqOwnersSpec : ChangeSpec := { name := "irqOwners", fn := fun _ => fun
  | [d1, d2, d3, d4] => { results := [.lit (.bool true)], args := [d1, d2, d3, d4] }
  | _ => none }
def irqOwnersRow : OpenClaim := { program := "ytnhlcfkjhacedaa", sum := "080fe9ae994d2be7e30e7d7b46a08083fb08cb1a7bc7de92b46109fe83d5346a", func := "portreeve/portreevelaw22.IrqOwners", spec := "irqOwners", unfollowed := true, recurses := true, apart := false }
def IrqOwnersSaid : Prop := irqOwnersRow.holds Try.pinned (OpenSpec.ofChange irqOwnersSpec)

/-- ITS FALSE NEIGHBOUR: 'it returns false'. Refute it at one input. -/
def irqOwnersWrong : ChangeSpec := { name := "irqOwners", fn := fun _ => fun
  | [d1, d2, d3, d4] => { results := [.lit (.bool false)], args := [d1, d2, d3, d4] }
  | _ => none }
def IrqOwnersWrongFalsely : Prop := irqOwnersRow.holds Try.pinned (OpenSpec.ofChange irqOwnersWrong)

/-- 'portreevelaw23.SmmuTables': WHATEVER THE INPUT: true; the input reads as it did. -/
def smmuTablesSpec : ChangeSpec := { name := "smmuTables", fn := fun _ => fun
  | [d1, d2, d3, d4] => { results := [.lit (.bool true)], args := [d1, d2, d3, d4] }
  | _ => none }
def smmuTablesRow : OpenClaim := { program := "ytnhlcfkjhacedaa", sum := "080fe9ae994d2be7e30e7d7b46a08083fb08cb1a7bc7de92b46109fe83d5346a", func := "portreeve/portreevelaw23.SmmuTables", spec := "smmuTables", unfollowed := true, recurses := true, apart := false }
def SmmuTablesSaid : Prop := smmuTablesRow.holds Try.pinned (OpenSpec.ofChange smmuTablesSpec)

/-- ITS FALSE NEIGHBOUR: 'it returns false'. Refute it at one input. -/
def smmuTablesWrong : ChangeSpec := { name := "smmuTables", fn := fun _ => fun
  | [d1, d2, d3, d4] => { results := [.lit (.bool false)], args := [d1, d2, d3, d4] }
  | _ => none }
def SmmuTablesWrongFalsely : Prop := smmuTablesRow.holds Try.pinned (OpenSpec.ofChange smmuTablesWrong)

/-- 'portreevelaw23.SmmuOwners': WHATEVER THE INPUT: true; the input reads as it did. -/
def smmuOwnersSpec : ChangeSpec := { name := "smmuOwners", fn := fun _ => fun
  | [d1, d2, d3, d4, d5] => { results := [.lit (.bool true)], args := [d1, d2, d3, d4, d5] }
  | _ => none }
def smmuOwnersRow : OpenClaim := { program := "ytnhlcfkjhacedaa", sum := "080fe9ae994d2be7e30e7d7b46a08083fb08cb1a7bc7de92b46109fe83d5346a", func := "portreeve/portreevelaw23.SmmuOwners", spec := "smmuOwners", unfollowed := true, recurses := true, apart := false }
def SmmuOwnersSaid : Prop := smmuOwnersRow.holds Try.pinned (OpenSpec.ofChange smmuOwnersSpec)

/-- ITS FALSE NEIGHBOUR: 'it returns false'. Refute it at one input. -/
def smmuOwnersWrong : ChangeSpec := { name := "smmuOwners", fn := fun _ => fun
  | [d1, d2, d3, d4, d5] => { results := [.lit (.bool false)], args := [d1, d2, d3, d4, d5] }
  | _ => none }
def SmmuOwnersWrongFalsely : Prop := smmuOwnersRow.holds Try.pinned (OpenSpec.ofChange smmuOwnersWrong)

/-- 'portreevelaw22.IrqBytes': WHATEVER THE INPUT: true; the input reads as it did. -/
def irqBytesSpec : ChangeSpec := { name := "irqBytes", fn := fun _ => fun
  | [d1, d2] => { results := [.lit (.bool true)], args := [d1, d2] }
  | _ => none }
def irqBytesRow : OpenClaim := { program := "ytnhlcfkjhacedaa", sum := "080fe9ae994d2be7e30e7d7b46a08083fb08cb1a7bc7de92b46109fe83d5346a", func := "portreeve/portreevelaw22.IrqBytes", spec := "irqBytes", unfollowed := true, recurses := true, apart := false }
def IrqBytesSaid : Prop := irqBytesRow.holds Try.pinned (OpenSpec.ofChange irqBytesSpec)

/-- ITS FALSE NEIGHBOUR: 'it returns false'. Refute it at one input. -/
def irqBytesWrong : ChangeSpec := { name := "irqBytes", fn := fun _ => fun
  | [d1, d2] => { results := [.lit (.bool false)], args := [d1, d2] }
  | _ => none }
def IrqBytesWrongFalsely : Prop := irqBytesRow.holds Try.pinned (OpenSpec.ofChange irqBytesWrong)

/-- 'portreevelaw22.IrqBack': WHATEVER THE INPUT: true; the input reads as it did. -/
def irqBackSpec : ChangeSpec := { name := "irqBack", fn := fun _ => fun
  | [d] => { results := [.lit (.bool true)], args := [d] }
  | _ => none }
def irqBackRow : OpenClaim := { program := "ytnhlcfkjhacedaa", sum := "080fe9ae994d2be7e30e7d7b46a08083fb08cb1a7bc7de92b46109fe83d5346a", func := "portreeve/portreevelaw22.IrqBack", spec := "irqBack", unfollowed := true, recurses := true, apart := false }
def IrqBackSaid : Prop := irqBackRow.holds Try.pinned (OpenSpec.ofChange irqBackSpec)

/-- ITS FALSE NEIGHBOUR: 'it returns false'. Refute it at one input. -/
def irqBackWrong : ChangeSpec := { name := "irqBack", fn := fun _ => fun
  | [d] => { results := [.lit (.bool false)], args := [d] }
  | _ => none }
def IrqBackWrongFalsely : Prop := irqBackRow.holds Try.pinned (OpenSpec.ofChange irqBackWrong)

/- THE SECOND FORM. 'bulk': how many values and letters a reading holds, each counted each time it is reached (what is shared counts as often as it is met; a slice's spare places count too). A statement '..UptoSaid' is the law's where the arguments, and the package variables that the reading takes, are together of bulk at most 1048576: NARROWER than '..Said'. Prove '..Said' where nothing that the law and all that it calls make is longer than what came in: it says more and counts as full. Else prove '..UptoSaid'. A law counts once. -/
mutual
def uptoBulk {H : Type} : DataW H → Nat
  | .lit (.string bytes) => bytes.length + 1
  | .lit _ => 1
  | .nil => 1
  | .ptr d => uptoBulk d + 1
  | .slice elems spare => uptoBulkAll elems + uptoBulkAll spare + 1
  | .agg parts => uptoBulkAll parts + 1
  | .iface _ d => uptoBulk d + 1
  | .map entries => uptoBulkEntries entries + 1
  | .held _ => 1
def uptoBulkAll {H : Type} : List (DataW H) → Nat
  | [] => 0
  | d :: r => uptoBulk d + uptoBulkAll r
def uptoBulkEntries {H : Type} : List (Lit × DataW H) → Nat
  | [] => 0
  | x :: r => uptoBulkEntry x + uptoBulkEntries r
def uptoBulkEntry {H : Type} : Lit × DataW H → Nat
  | (.string bytes, d) => bytes.length + uptoBulk d + 1
  | (_, d) => uptoBulk d + 1
 end
def uptoSmall : (H : Type) → List (DataW H) → Bool := fun _ ds => decide (uptoBulkAll ds ≤ 1048576)
def OpenSpec.upto (s : _root_.Go.ChangeSpec) : _root_.Go.OpenSpec := { _root_.Go.OpenSpec.ofChange s with cond := some uptoSmall }

/-- 'portreevelaw21.RegsVcpus', WHERE WHAT IT READS IS OF BULK AT MOST 1048576: true; the input reads as it did. -/
def regsVcpusUptoRow : OpenClaim := { program := "ytnhlcfkjhacedaa", sum := "080fe9ae994d2be7e30e7d7b46a08083fb08cb1a7bc7de92b46109fe83d5346a", func := "portreeve/portreevelaw21.RegsVcpus", spec := "regsVcpus", unfollowed := true, recurses := true, apart := false, narrowed := true }
def RegsVcpusUptoSaid : Prop := regsVcpusUptoRow.holds Try.pinned (OpenSpec.upto regsVcpusSpec)

/-- 'portreevelaw22.IrqRoutes', WHERE WHAT IT READS IS OF BULK AT MOST 1048576: true; the input reads as it did. -/
def irqRoutesUptoRow : OpenClaim := { program := "ytnhlcfkjhacedaa", sum := "080fe9ae994d2be7e30e7d7b46a08083fb08cb1a7bc7de92b46109fe83d5346a", func := "portreeve/portreevelaw22.IrqRoutes", spec := "irqRoutes", unfollowed := true, recurses := true, apart := false, narrowed := true }
def IrqRoutesUptoSaid : Prop := irqRoutesUptoRow.holds Try.pinned (OpenSpec.upto irqRoutesSpec)

/-- 'portreevelaw22.IrqGic', WHERE WHAT IT READS IS OF BULK AT MOST 1048576: true; the input reads as it did. -/
def irqGicUptoRow : OpenClaim := { program := "ytnhlcfkjhacedaa", sum := "080fe9ae994d2be7e30e7d7b46a08083fb08cb1a7bc7de92b46109fe83d5346a", func := "portreeve/portreevelaw22.IrqGic", spec := "irqGic", unfollowed := true, recurses := true, apart := false, narrowed := true }
def IrqGicUptoSaid : Prop := irqGicUptoRow.holds Try.pinned (OpenSpec.upto irqGicSpec)

/-- 'portreevelaw22.IrqOwners', WHERE WHAT IT READS IS OF BULK AT MOST 1048576: true; the input reads as it did. -/
def irqOwnersUptoRow : OpenClaim := { program := "ytnhlcfkjhacedaa", sum := "080fe9ae994d2be7e30e7d7b46a08083fb08cb1a7bc7de92b46109fe83d5346a", func := "portreeve/portreevelaw22.IrqOwners", spec := "irqOwners", unfollowed := true, recurses := true, apart := false, narrowed := true }
def IrqOwnersUptoSaid : Prop := irqOwnersUptoRow.holds Try.pinned (OpenSpec.upto irqOwnersSpec)

/-- 'portreevelaw23.SmmuTables', WHERE WHAT IT READS IS OF BULK AT MOST 1048576: true; the input reads as it did. -/
def smmuTablesUptoRow : OpenClaim := { program := "ytnhlcfkjhacedaa", sum := "080fe9ae994d2be7e30e7d7b46a08083fb08cb1a7bc7de92b46109fe83d5346a", func := "portreeve/portreevelaw23.SmmuTables", spec := "smmuTables", unfollowed := true, recurses := true, apart := false, narrowed := true }
def SmmuTablesUptoSaid : Prop := smmuTablesUptoRow.holds Try.pinned (OpenSpec.upto smmuTablesSpec)

/-- 'portreevelaw23.SmmuOwners', WHERE WHAT IT READS IS OF BULK AT MOST 1048576: true; the input reads as it did. -/
def smmuOwnersUptoRow : OpenClaim := { program := "ytnhlcfkjhacedaa", sum := "080fe9ae994d2be7e30e7d7b46a08083fb08cb1a7bc7de92b46109fe83d5346a", func := "portreeve/portreevelaw23.SmmuOwners", spec := "smmuOwners", unfollowed := true, recurses := true, apart := false, narrowed := true }
def SmmuOwnersUptoSaid : Prop := smmuOwnersUptoRow.holds Try.pinned (OpenSpec.upto smmuOwnersSpec)

/-- 'portreevelaw22.IrqBytes', WHERE WHAT IT READS IS OF BULK AT MOST 1048576: true; the input reads as it did. -/
def irqBytesUptoRow : OpenClaim := { program := "ytnhlcfkjhacedaa", sum := "080fe9ae994d2be7e30e7d7b46a08083fb08cb1a7bc7de92b46109fe83d5346a", func := "portreeve/portreevelaw22.IrqBytes", spec := "irqBytes", unfollowed := true, recurses := true, apart := false, narrowed := true }
def IrqBytesUptoSaid : Prop := irqBytesUptoRow.holds Try.pinned (OpenSpec.upto irqBytesSpec)

/-- 'portreevelaw22.IrqBack', WHERE WHAT IT READS IS OF BULK AT MOST 1048576: true; the input reads as it did. -/
def irqBackUptoRow : OpenClaim := { program := "ytnhlcfkjhacedaa", sum := "080fe9ae994d2be7e30e7d7b46a08083fb08cb1a7bc7de92b46109fe83d5346a", func := "portreeve/portreevelaw22.IrqBack", spec := "irqBack", unfollowed := true, recurses := true, apart := false, narrowed := true }
def IrqBackUptoSaid : Prop := irqBackUptoRow.holds Try.pinned (OpenSpec.upto irqBackSpec)

end Rows
end Go.Proofs.Ytnhlcfkjhacedaa
