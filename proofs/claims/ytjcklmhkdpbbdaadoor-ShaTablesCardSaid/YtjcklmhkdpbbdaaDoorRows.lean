/-
  NARROWER THAN 'FOR EVERY INPUT', by the rows' own cells (each row's printed sentence says how): ShaSums: laid · ShaPads: laid · ShaBlocks: laid · ShaWrites: laid · ShaClones: laid · MeasAdds: laid · MeasFolds: laid · MeasOn: laid · ShaTables: laid · MeasLogs: laid · MeasBack: laid.
  DERIVED. THE GIVEN ROWS OF THIS SEAT. 11 by the template 'for every input the law returns true; each argument reads behind the call as it read before'; 0 by the template 'total and deterministic' (their statements: YtjcklmhkdpbbdaaDoorTotals.lean).
  GIVEN WITH THE SEED: the statements are not yours to turn. If you find one false, say at which input.
  Laid BY PROGRAM, IN A SANDBOX (cutbox-rows.mjs): the forced cells as the released guide's own fill.sh prints them over the translation ef63c13b647f19f6… (all of the seat's roots in one cut). By AI agents, Wed Nov 11 2026. No macro, syntax, notation, axiom, sorry.
-/
import Derived.Test.YtjcklmhkdpbbdaaDoorChecked
import GoSem.Claim
import GoSem.ClaimJoined
import GoSem.ClaimMapViews
import Derived.JoinedTies
import Derived.KernelRfl
namespace Go.Proofs.YtjcklmhkdpbbdaaDoor
/- THE CELL 'sum', in the pinned program and in every row, IS THE sha256 OF THE DUMP (.gsa) THAT YtjcklmhkdpbbdaaDoorProg.lean LOADS. Nothing in Lean hashes anything: it is a label: what it is worth is what the hold of that sum in a sandbox is worth. -/
noncomputable def Tryd.pinned : Pinned := { name := "ytjcklmhkdpbbdaadoor", sum := "ef63c13b647f19f60f8714f41eeffa3995a0896264db0d4faae8c708f3def131", checked := Tryd.checked }
namespace Rows
def none {H : Type} : Left H := { results := [], args := [] }

/- WHAT THE LISTED PACKAGE-LEVEL VARIABLES READ AS WHEN THE CALL BEGINS. Each datum BY PROGRAM (the guide's laid-datum.mjs) off the statement by which the dump's own 'gosem.cut.vars' lays the variable. In a bare row this is a premise. The card (YtjcklmhkdpbbdaaDoorCards.lean) ties it to the program's text. -/
def laid_portreeve_sha_first {H : Type} : DataW H := .agg [.lit (.int .u32 1779033703), .lit (.int .u32 3144134277), .lit (.int .u32 1013904242), .lit (.int .u32 2773480762), .lit (.int .u32 1359893119), .lit (.int .u32 2600822924), .lit (.int .u32 528734635), .lit (.int .u32 1541459225)]
def laid_portreeve_sha_rounds {H : Type} : DataW H := .agg [.lit (.int .u32 1116352408), .lit (.int .u32 1899447441), .lit (.int .u32 3049323471), .lit (.int .u32 3921009573), .lit (.int .u32 961987163), .lit (.int .u32 1508970993), .lit (.int .u32 2453635748), .lit (.int .u32 2870763221), .lit (.int .u32 3624381080), .lit (.int .u32 310598401), .lit (.int .u32 607225278), .lit (.int .u32 1426881987), .lit (.int .u32 1925078388), .lit (.int .u32 2162078206), .lit (.int .u32 2614888103), .lit (.int .u32 3248222580), .lit (.int .u32 3835390401), .lit (.int .u32 4022224774), .lit (.int .u32 264347078), .lit (.int .u32 604807628), .lit (.int .u32 770255983), .lit (.int .u32 1249150122), .lit (.int .u32 1555081692), .lit (.int .u32 1996064986), .lit (.int .u32 2554220882), .lit (.int .u32 2821834349), .lit (.int .u32 2952996808), .lit (.int .u32 3210313671), .lit (.int .u32 3336571891), .lit (.int .u32 3584528711), .lit (.int .u32 113926993), .lit (.int .u32 338241895), .lit (.int .u32 666307205), .lit (.int .u32 773529912), .lit (.int .u32 1294757372), .lit (.int .u32 1396182291), .lit (.int .u32 1695183700), .lit (.int .u32 1986661051), .lit (.int .u32 2177026350), .lit (.int .u32 2456956037), .lit (.int .u32 2730485921), .lit (.int .u32 2820302411), .lit (.int .u32 3259730800), .lit (.int .u32 3345764771), .lit (.int .u32 3516065817), .lit (.int .u32 3600352804), .lit (.int .u32 4094571909), .lit (.int .u32 275423344), .lit (.int .u32 430227734), .lit (.int .u32 506948616), .lit (.int .u32 659060556), .lit (.int .u32 883997877), .lit (.int .u32 958139571), .lit (.int .u32 1322822218), .lit (.int .u32 1537002063), .lit (.int .u32 1747873779), .lit (.int .u32 1955562222), .lit (.int .u32 2024104815), .lit (.int .u32 2227730452), .lit (.int .u32 2361852424), .lit (.int .u32 2428436474), .lit (.int .u32 2756734187), .lit (.int .u32 3204031479), .lit (.int .u32 3329325298)]

/-- 'portreevelaw03.ShaSums': WHATEVER THE INPUT: true; the input reads as it did. -/
def shaSumsSpec : ChangeSpec := { name := "shaSums", fn := fun _ => fun
  | [d] => { results := [.lit (.bool true)], args := [d] }
  | _ => none }
def shaSumsRow : OpenClaim := { program := "ytjcklmhkdpbbdaadoor", sum := "ef63c13b647f19f60f8714f41eeffa3995a0896264db0d4faae8c708f3def131", func := "portreeve/portreevelaw03.ShaSums", spec := "shaSums", named := ["portreeve/sha.first", "portreeve/sha.rounds"], apart := false, laid := [("portreeve/sha.first", laid_portreeve_sha_first), ("portreeve/sha.rounds", laid_portreeve_sha_rounds)] }
def ShaSumsSaid : Prop := shaSumsRow.holds Tryd.pinned (OpenSpec.ofChange shaSumsSpec)

/-- ITS FALSE NEIGHBOUR: 'it returns false'. Refute it at one input. -/
def shaSumsWrong : ChangeSpec := { name := "shaSums", fn := fun _ => fun
  | [d] => { results := [.lit (.bool false)], args := [d] }
  | _ => none }
def ShaSumsWrongFalsely : Prop := shaSumsRow.holds Tryd.pinned (OpenSpec.ofChange shaSumsWrong)

/-- 'portreevelaw03.ShaPads': WHATEVER THE INPUT: true; the input reads as it did. -/
def shaPadsSpec : ChangeSpec := { name := "shaPads", fn := fun _ => fun
  | [d] => { results := [.lit (.bool true)], args := [d] }
  | _ => none }
def shaPadsRow : OpenClaim := { program := "ytjcklmhkdpbbdaadoor", sum := "ef63c13b647f19f60f8714f41eeffa3995a0896264db0d4faae8c708f3def131", func := "portreeve/portreevelaw03.ShaPads", spec := "shaPads", named := ["portreeve/sha.first", "portreeve/sha.rounds"], apart := false, laid := [("portreeve/sha.first", laid_portreeve_sha_first), ("portreeve/sha.rounds", laid_portreeve_sha_rounds)] }
def ShaPadsSaid : Prop := shaPadsRow.holds Tryd.pinned (OpenSpec.ofChange shaPadsSpec)

/-- ITS FALSE NEIGHBOUR: 'it returns false'. Refute it at one input. -/
def shaPadsWrong : ChangeSpec := { name := "shaPads", fn := fun _ => fun
  | [d] => { results := [.lit (.bool false)], args := [d] }
  | _ => none }
def ShaPadsWrongFalsely : Prop := shaPadsRow.holds Tryd.pinned (OpenSpec.ofChange shaPadsWrong)

/-- 'portreevelaw03.ShaBlocks': WHATEVER THE INPUT: true; the input reads as it did. -/
def shaBlocksSpec : ChangeSpec := { name := "shaBlocks", fn := fun _ => fun
  | [d1, d2] => { results := [.lit (.bool true)], args := [d1, d2] }
  | _ => none }
def shaBlocksRow : OpenClaim := { program := "ytjcklmhkdpbbdaadoor", sum := "ef63c13b647f19f60f8714f41eeffa3995a0896264db0d4faae8c708f3def131", func := "portreeve/portreevelaw03.ShaBlocks", spec := "shaBlocks", named := ["portreeve/sha.first", "portreeve/sha.rounds"], apart := false, laid := [("portreeve/sha.first", laid_portreeve_sha_first), ("portreeve/sha.rounds", laid_portreeve_sha_rounds)] }
def ShaBlocksSaid : Prop := shaBlocksRow.holds Tryd.pinned (OpenSpec.ofChange shaBlocksSpec)

/-- ITS FALSE NEIGHBOUR: 'it returns false'. Refute it at one input. -/
def shaBlocksWrong : ChangeSpec := { name := "shaBlocks", fn := fun _ => fun
  | [d1, d2] => { results := [.lit (.bool false)], args := [d1, d2] }
  | _ => none }
def ShaBlocksWrongFalsely : Prop := shaBlocksRow.holds Tryd.pinned (OpenSpec.ofChange shaBlocksWrong)

/-- 'portreevelaw03.ShaWrites': WHATEVER THE INPUT: true; the input reads as it did. -/
def shaWritesSpec : ChangeSpec := { name := "shaWrites", fn := fun _ => fun
  | [d1, d2] => { results := [.lit (.bool true)], args := [d1, d2] }
  | _ => none }
def shaWritesRow : OpenClaim := { program := "ytjcklmhkdpbbdaadoor", sum := "ef63c13b647f19f60f8714f41eeffa3995a0896264db0d4faae8c708f3def131", func := "portreeve/portreevelaw03.ShaWrites", spec := "shaWrites", named := ["portreeve/sha.first", "portreeve/sha.rounds"], apart := false, laid := [("portreeve/sha.first", laid_portreeve_sha_first), ("portreeve/sha.rounds", laid_portreeve_sha_rounds)] }
def ShaWritesSaid : Prop := shaWritesRow.holds Tryd.pinned (OpenSpec.ofChange shaWritesSpec)

/-- ITS FALSE NEIGHBOUR: 'it returns false'. Refute it at one input. -/
def shaWritesWrong : ChangeSpec := { name := "shaWrites", fn := fun _ => fun
  | [d1, d2] => { results := [.lit (.bool false)], args := [d1, d2] }
  | _ => none }
def ShaWritesWrongFalsely : Prop := shaWritesRow.holds Tryd.pinned (OpenSpec.ofChange shaWritesWrong)

/-- 'portreevelaw03.ShaClones': WHATEVER THE INPUT: true; the input reads as it did. -/
def shaClonesSpec : ChangeSpec := { name := "shaClones", fn := fun _ => fun
  | [d1, d2, d3] => { results := [.lit (.bool true)], args := [d1, d2, d3] }
  | _ => none }
def shaClonesRow : OpenClaim := { program := "ytjcklmhkdpbbdaadoor", sum := "ef63c13b647f19f60f8714f41eeffa3995a0896264db0d4faae8c708f3def131", func := "portreeve/portreevelaw03.ShaClones", spec := "shaClones", named := ["portreeve/sha.first", "portreeve/sha.rounds"], apart := false, laid := [("portreeve/sha.first", laid_portreeve_sha_first), ("portreeve/sha.rounds", laid_portreeve_sha_rounds)] }
def ShaClonesSaid : Prop := shaClonesRow.holds Tryd.pinned (OpenSpec.ofChange shaClonesSpec)

/-- ITS FALSE NEIGHBOUR: 'it returns false'. Refute it at one input. -/
def shaClonesWrong : ChangeSpec := { name := "shaClones", fn := fun _ => fun
  | [d1, d2, d3] => { results := [.lit (.bool false)], args := [d1, d2, d3] }
  | _ => none }
def ShaClonesWrongFalsely : Prop := shaClonesRow.holds Tryd.pinned (OpenSpec.ofChange shaClonesWrong)

/-- 'portreevelaw25.MeasAdds': WHATEVER THE INPUT: true; the input reads as it did. -/
def measAddsSpec : ChangeSpec := { name := "measAdds", fn := fun _ => fun
  | [d1, d2] => { results := [.lit (.bool true)], args := [d1, d2] }
  | _ => none }
def measAddsRow : OpenClaim := { program := "ytjcklmhkdpbbdaadoor", sum := "ef63c13b647f19f60f8714f41eeffa3995a0896264db0d4faae8c708f3def131", func := "portreeve/portreevelaw25.MeasAdds", spec := "measAdds", unfollowed := true, recurses := true, named := ["portreeve/sha.first", "portreeve/sha.rounds"], apart := false, laid := [("portreeve/sha.first", laid_portreeve_sha_first), ("portreeve/sha.rounds", laid_portreeve_sha_rounds)] }
def MeasAddsSaid : Prop := measAddsRow.holds Tryd.pinned (OpenSpec.ofChange measAddsSpec)

/-- ITS FALSE NEIGHBOUR: 'it returns false'. Refute it at one input. -/
def measAddsWrong : ChangeSpec := { name := "measAdds", fn := fun _ => fun
  | [d1, d2] => { results := [.lit (.bool false)], args := [d1, d2] }
  | _ => none }
def MeasAddsWrongFalsely : Prop := measAddsRow.holds Tryd.pinned (OpenSpec.ofChange measAddsWrong)

/-- 'portreevelaw25.MeasFolds': WHATEVER THE INPUT: true; the input reads as it did. -/
def measFoldsSpec : ChangeSpec := { name := "measFolds", fn := fun _ => fun
  | [d1, d2] => { results := [.lit (.bool true)], args := [d1, d2] }
  | _ => none }
def measFoldsRow : OpenClaim := { program := "ytjcklmhkdpbbdaadoor", sum := "ef63c13b647f19f60f8714f41eeffa3995a0896264db0d4faae8c708f3def131", func := "portreeve/portreevelaw25.MeasFolds", spec := "measFolds", unfollowed := true, recurses := true, named := ["portreeve/sha.first", "portreeve/sha.rounds"], apart := false, laid := [("portreeve/sha.first", laid_portreeve_sha_first), ("portreeve/sha.rounds", laid_portreeve_sha_rounds)] }
def MeasFoldsSaid : Prop := measFoldsRow.holds Tryd.pinned (OpenSpec.ofChange measFoldsSpec)

/-- ITS FALSE NEIGHBOUR: 'it returns false'. Refute it at one input. -/
def measFoldsWrong : ChangeSpec := { name := "measFolds", fn := fun _ => fun
  | [d1, d2] => { results := [.lit (.bool false)], args := [d1, d2] }
  | _ => none }
def MeasFoldsWrongFalsely : Prop := measFoldsRow.holds Tryd.pinned (OpenSpec.ofChange measFoldsWrong)

/-- 'portreevelaw25.MeasOn': WHATEVER THE INPUT: true; the input reads as it did. -/
def measOnSpec : ChangeSpec := { name := "measOn", fn := fun _ => fun
  | [d1, d2] => { results := [.lit (.bool true)], args := [d1, d2] }
  | _ => none }
def measOnRow : OpenClaim := { program := "ytjcklmhkdpbbdaadoor", sum := "ef63c13b647f19f60f8714f41eeffa3995a0896264db0d4faae8c708f3def131", func := "portreeve/portreevelaw25.MeasOn", spec := "measOn", unfollowed := true, recurses := true, named := ["portreeve/sha.first", "portreeve/sha.rounds"], apart := false, laid := [("portreeve/sha.first", laid_portreeve_sha_first), ("portreeve/sha.rounds", laid_portreeve_sha_rounds)] }
def MeasOnSaid : Prop := measOnRow.holds Tryd.pinned (OpenSpec.ofChange measOnSpec)

/-- ITS FALSE NEIGHBOUR: 'it returns false'. Refute it at one input. -/
def measOnWrong : ChangeSpec := { name := "measOn", fn := fun _ => fun
  | [d1, d2] => { results := [.lit (.bool false)], args := [d1, d2] }
  | _ => none }
def MeasOnWrongFalsely : Prop := measOnRow.holds Tryd.pinned (OpenSpec.ofChange measOnWrong)

/-- 'portreevelaw03.ShaTables': WHATEVER THE INPUT: true; the input reads as it did. -/
def shaTablesSpec : ChangeSpec := { name := "shaTables", fn := fun _ => fun
  | [d1, d2] => { results := [.lit (.bool true)], args := [d1, d2] }
  | _ => none }
def shaTablesRow : OpenClaim := { program := "ytjcklmhkdpbbdaadoor", sum := "ef63c13b647f19f60f8714f41eeffa3995a0896264db0d4faae8c708f3def131", func := "portreeve/portreevelaw03.ShaTables", spec := "shaTables", inPlace := ["math/bits.Add64"], named := ["portreeve/sha.first", "portreeve/sha.rounds"], apart := false, laid := [("portreeve/sha.first", laid_portreeve_sha_first), ("portreeve/sha.rounds", laid_portreeve_sha_rounds)] }
def ShaTablesSaid : Prop := shaTablesRow.holds Tryd.pinned (OpenSpec.ofChange shaTablesSpec)

/-- ITS FALSE NEIGHBOUR: 'it returns false'. Refute it at one input. -/
def shaTablesWrong : ChangeSpec := { name := "shaTables", fn := fun _ => fun
  | [d1, d2] => { results := [.lit (.bool false)], args := [d1, d2] }
  | _ => none }
def ShaTablesWrongFalsely : Prop := shaTablesRow.holds Tryd.pinned (OpenSpec.ofChange shaTablesWrong)

/-- 'portreevelaw25.MeasLogs': WHATEVER THE INPUT: true; the input reads as it did. -/
def measLogsSpec : ChangeSpec := { name := "measLogs", fn := fun _ => fun
  | [d1, d2] => { results := [.lit (.bool true)], args := [d1, d2] }
  | _ => none }
def measLogsRow : OpenClaim := { program := "ytjcklmhkdpbbdaadoor", sum := "ef63c13b647f19f60f8714f41eeffa3995a0896264db0d4faae8c708f3def131", func := "portreeve/portreevelaw25.MeasLogs", spec := "measLogs", unfollowed := true, recurses := true, named := ["portreeve/sha.first", "portreeve/sha.rounds"], apart := false, laid := [("portreeve/sha.first", laid_portreeve_sha_first), ("portreeve/sha.rounds", laid_portreeve_sha_rounds)] }
def MeasLogsSaid : Prop := measLogsRow.holds Tryd.pinned (OpenSpec.ofChange measLogsSpec)

/-- ITS FALSE NEIGHBOUR: 'it returns false'. Refute it at one input. -/
def measLogsWrong : ChangeSpec := { name := "measLogs", fn := fun _ => fun
  | [d1, d2] => { results := [.lit (.bool false)], args := [d1, d2] }
  | _ => none }
def MeasLogsWrongFalsely : Prop := measLogsRow.holds Tryd.pinned (OpenSpec.ofChange measLogsWrong)

/-- 'portreevelaw25.MeasBack': WHATEVER THE INPUT: true; the input reads as it did. -/
def measBackSpec : ChangeSpec := { name := "measBack", fn := fun _ => fun
  | [d] => { results := [.lit (.bool true)], args := [d] }
  | _ => none }
def measBackRow : OpenClaim := { program := "ytjcklmhkdpbbdaadoor", sum := "ef63c13b647f19f60f8714f41eeffa3995a0896264db0d4faae8c708f3def131", func := "portreeve/portreevelaw25.MeasBack", spec := "measBack", unfollowed := true, recurses := true, named := ["portreeve/sha.first", "portreeve/sha.rounds"], apart := false, laid := [("portreeve/sha.first", laid_portreeve_sha_first), ("portreeve/sha.rounds", laid_portreeve_sha_rounds)] }
def MeasBackSaid : Prop := measBackRow.holds Tryd.pinned (OpenSpec.ofChange measBackSpec)

/-- ITS FALSE NEIGHBOUR: 'it returns false'. Refute it at one input. -/
def measBackWrong : ChangeSpec := { name := "measBack", fn := fun _ => fun
  | [d] => { results := [.lit (.bool false)], args := [d] }
  | _ => none }
def MeasBackWrongFalsely : Prop := measBackRow.holds Tryd.pinned (OpenSpec.ofChange measBackWrong)

/- THE SECOND FORM. 'bulk': how many values and letters a reading holds, each counted each time it is reached (what is shared counts as often as it is met; a slice's spare places count too). A statement '..UptoSaid' is the law's where the arguments, and the package variables that the reading takes, are together of bulk at most 1048576: NARROWER than '..Said'. Prove '..Said' where nothing that the law and all that it calls make is longer than what came in: it says more and counts as full. Else prove '..UptoSaid'. A law counts once. -/
mutual
def uptoBulk {H : Type} : DataW H → Nat
  | .lit (.string bytes) => bytes.length + 1
  | .lit _ => 1
  | .nil => 1
  | .ptr d => uptoBulk d + 1
  | .slice elems spare => uptoBulkAll elems + uptoBulkAll spare + 1
  | .agg parts => uptoBulkAll parts + 1
  | .iface _ d => uptoBulk d + 1
  | .map entries => uptoBulkEntries entries + 1
  | .held _ => 1
def uptoBulkAll {H : Type} : List (DataW H) → Nat
  | [] => 0
  | d :: r => uptoBulk d + uptoBulkAll r
def uptoBulkEntries {H : Type} : List (Lit × DataW H) → Nat
  | [] => 0
  | x :: r => uptoBulkEntry x + uptoBulkEntries r
def uptoBulkEntry {H : Type} : Lit × DataW H → Nat
  | (.string bytes, d) => bytes.length + uptoBulk d + 1
  | (_, d) => uptoBulk d + 1
 end
def uptoSmall : (H : Type) → List (DataW H) → Bool := fun _ ds => decide (uptoBulkAll ds ≤ 1048576)
def OpenSpec.upto (s : _root_.Go.ChangeSpec) : _root_.Go.OpenSpec := { _root_.Go.OpenSpec.ofChange s with cond := some uptoSmall }

/-- 'portreevelaw03.ShaSums', WHERE WHAT IT READS IS OF BULK AT MOST 1048576: true; the input reads as it did. -/
def shaSumsUptoRow : OpenClaim := { program := "ytjcklmhkdpbbdaadoor", sum := "ef63c13b647f19f60f8714f41eeffa3995a0896264db0d4faae8c708f3def131", func := "portreeve/portreevelaw03.ShaSums", spec := "shaSums", named := ["portreeve/sha.first", "portreeve/sha.rounds"], apart := false, laid := [("portreeve/sha.first", laid_portreeve_sha_first), ("portreeve/sha.rounds", laid_portreeve_sha_rounds)], narrowed := true }
def ShaSumsUptoSaid : Prop := shaSumsUptoRow.holds Tryd.pinned (OpenSpec.upto shaSumsSpec)

/-- 'portreevelaw03.ShaPads', WHERE WHAT IT READS IS OF BULK AT MOST 1048576: true; the input reads as it did. -/
def shaPadsUptoRow : OpenClaim := { program := "ytjcklmhkdpbbdaadoor", sum := "ef63c13b647f19f60f8714f41eeffa3995a0896264db0d4faae8c708f3def131", func := "portreeve/portreevelaw03.ShaPads", spec := "shaPads", named := ["portreeve/sha.first", "portreeve/sha.rounds"], apart := false, laid := [("portreeve/sha.first", laid_portreeve_sha_first), ("portreeve/sha.rounds", laid_portreeve_sha_rounds)], narrowed := true }
def ShaPadsUptoSaid : Prop := shaPadsUptoRow.holds Tryd.pinned (OpenSpec.upto shaPadsSpec)

/-- 'portreevelaw03.ShaBlocks', WHERE WHAT IT READS IS OF BULK AT MOST 1048576: true; the input reads as it did. -/
def shaBlocksUptoRow : OpenClaim := { program := "ytjcklmhkdpbbdaadoor", sum := "ef63c13b647f19f60f8714f41eeffa3995a0896264db0d4faae8c708f3def131", func := "portreeve/portreevelaw03.ShaBlocks", spec := "shaBlocks", named := ["portreeve/sha.first", "portreeve/sha.rounds"], apart := false, laid := [("portreeve/sha.first", laid_portreeve_sha_first), ("portreeve/sha.rounds", laid_portreeve_sha_rounds)], narrowed := true }
def ShaBlocksUptoSaid : Prop := shaBlocksUptoRow.holds Tryd.pinned (OpenSpec.upto shaBlocksSpec)

/-- 'portreevelaw03.ShaWrites', WHERE WHAT IT READS IS OF BULK AT MOST 1048576: true; the input reads as it did. -/
def shaWritesUptoRow : OpenClaim := { program := "ytjcklmhkdpbbdaadoor", sum := "ef63c13b647f19f60f8714f41eeffa3995a0896264db0d4faae8c708f3def131", func := "portreeve/portreevelaw03.ShaWrites", spec := "shaWrites", named := ["portreeve/sha.first", "portreeve/sha.rounds"], apart := false, laid := [("portreeve/sha.first", laid_portreeve_sha_first), ("portreeve/sha.rounds", laid_portreeve_sha_rounds)], narrowed := true }
def ShaWritesUptoSaid : Prop := shaWritesUptoRow.holds Tryd.pinned (OpenSpec.upto shaWritesSpec)

/-- 'portreevelaw03.ShaClones', WHERE WHAT IT READS IS OF BULK AT MOST 1048576: true; the input reads as it did. -/
def shaClonesUptoRow : OpenClaim := { program := "ytjcklmhkdpbbdaadoor", sum := "ef63c13b647f19f60f8714f41eeffa3995a0896264db0d4faae8c708f3def131", func := "portreeve/portreevelaw03.ShaClones", spec := "shaClones", named := ["portreeve/sha.first", "portreeve/sha.rounds"], apart := false, laid := [("portreeve/sha.first", laid_portreeve_sha_first), ("portreeve/sha.rounds", laid_portreeve_sha_rounds)], narrowed := true }
def ShaClonesUptoSaid : Prop := shaClonesUptoRow.holds Tryd.pinned (OpenSpec.upto shaClonesSpec)

/-- 'portreevelaw25.MeasAdds', WHERE WHAT IT READS IS OF BULK AT MOST 1048576: true; the input reads as it did. -/
def measAddsUptoRow : OpenClaim := { program := "ytjcklmhkdpbbdaadoor", sum := "ef63c13b647f19f60f8714f41eeffa3995a0896264db0d4faae8c708f3def131", func := "portreeve/portreevelaw25.MeasAdds", spec := "measAdds", unfollowed := true, recurses := true, named := ["portreeve/sha.first", "portreeve/sha.rounds"], apart := false, laid := [("portreeve/sha.first", laid_portreeve_sha_first), ("portreeve/sha.rounds", laid_portreeve_sha_rounds)], narrowed := true }
def MeasAddsUptoSaid : Prop := measAddsUptoRow.holds Tryd.pinned (OpenSpec.upto measAddsSpec)

/-- 'portreevelaw25.MeasFolds', WHERE WHAT IT READS IS OF BULK AT MOST 1048576: true; the input reads as it did. -/
def measFoldsUptoRow : OpenClaim := { program := "ytjcklmhkdpbbdaadoor", sum := "ef63c13b647f19f60f8714f41eeffa3995a0896264db0d4faae8c708f3def131", func := "portreeve/portreevelaw25.MeasFolds", spec := "measFolds", unfollowed := true, recurses := true, named := ["portreeve/sha.first", "portreeve/sha.rounds"], apart := false, laid := [("portreeve/sha.first", laid_portreeve_sha_first), ("portreeve/sha.rounds", laid_portreeve_sha_rounds)], narrowed := true }
def MeasFoldsUptoSaid : Prop := measFoldsUptoRow.holds Tryd.pinned (OpenSpec.upto measFoldsSpec)

/-- 'portreevelaw25.MeasOn', WHERE WHAT IT READS IS OF BULK AT MOST 1048576: true; the input reads as it did. -/
def measOnUptoRow : OpenClaim := { program := "ytjcklmhkdpbbdaadoor", sum := "ef63c13b647f19f60f8714f41eeffa3995a0896264db0d4faae8c708f3def131", func := "portreeve/portreevelaw25.MeasOn", spec := "measOn", unfollowed := true, recurses := true, named := ["portreeve/sha.first", "portreeve/sha.rounds"], apart := false, laid := [("portreeve/sha.first", laid_portreeve_sha_first), ("portreeve/sha.rounds", laid_portreeve_sha_rounds)], narrowed := true }
def MeasOnUptoSaid : Prop := measOnUptoRow.holds Tryd.pinned (OpenSpec.upto measOnSpec)

/-- 'portreevelaw03.ShaTables', WHERE WHAT IT READS IS OF BULK AT MOST 1048576: true; the input reads as it did. -/
def shaTablesUptoRow : OpenClaim := { program := "ytjcklmhkdpbbdaadoor", sum := "ef63c13b647f19f60f8714f41eeffa3995a0896264db0d4faae8c708f3def131", func := "portreeve/portreevelaw03.ShaTables", spec := "shaTables", inPlace := ["math/bits.Add64"], named := ["portreeve/sha.first", "portreeve/sha.rounds"], apart := false, laid := [("portreeve/sha.first", laid_portreeve_sha_first), ("portreeve/sha.rounds", laid_portreeve_sha_rounds)], narrowed := true }
def ShaTablesUptoSaid : Prop := shaTablesUptoRow.holds Tryd.pinned (OpenSpec.upto shaTablesSpec)

/-- 'portreevelaw25.MeasLogs', WHERE WHAT IT READS IS OF BULK AT MOST 1048576: true; the input reads as it did. -/
def measLogsUptoRow : OpenClaim := { program := "ytjcklmhkdpbbdaadoor", sum := "ef63c13b647f19f60f8714f41eeffa3995a0896264db0d4faae8c708f3def131", func := "portreeve/portreevelaw25.MeasLogs", spec := "measLogs", unfollowed := true, recurses := true, named := ["portreeve/sha.first", "portreeve/sha.rounds"], apart := false, laid := [("portreeve/sha.first", laid_portreeve_sha_first), ("portreeve/sha.rounds", laid_portreeve_sha_rounds)], narrowed := true }
def MeasLogsUptoSaid : Prop := measLogsUptoRow.holds Tryd.pinned (OpenSpec.upto measLogsSpec)

/-- 'portreevelaw25.MeasBack', WHERE WHAT IT READS IS OF BULK AT MOST 1048576: true; the input reads as it did. -/
def measBackUptoRow : OpenClaim := { program := "ytjcklmhkdpbbdaadoor", sum := "ef63c13b647f19f60f8714f41eeffa3995a0896264db0d4faae8c708f3def131", func := "portreeve/portreevelaw25.MeasBack", spec := "measBack", unfollowed := true, recurses := true, named := ["portreeve/sha.first", "portreeve/sha.rounds"], apart := false, laid := [("portreeve/sha.first", laid_portreeve_sha_first), ("portreeve/sha.rounds", laid_portreeve_sha_rounds)], narrowed := true }
def MeasBackUptoSaid : Prop := measBackUptoRow.holds Tryd.pinned (OpenSpec.upto measBackSpec)

end Rows
end Go.Proofs.YtjcklmhkdpbbdaaDoor
