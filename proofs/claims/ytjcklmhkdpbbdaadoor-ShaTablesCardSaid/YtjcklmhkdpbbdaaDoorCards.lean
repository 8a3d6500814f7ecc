/-
  DERIVED. GIVEN WITH THE SEED: THE CARDS: each row of YtjcklmhkdpbbdaaDoorRows.lean that lists a variable, with what it lists TIED to the program's text (the seventh form; the later family's looks); each row that meets fmt, with fmt's text TOLD by the authors' own Lean function (tested against real Go, not proved from fmt's source: count such statements apart). THE CARD IS WHAT COUNTS. Prove the row's statement (the work); the ties are given (YtjcklmhkdpbbdaaDoorTie.lean); close each card by the builder's one call (the guide's Derived/Test/ToyasCard.lean, 'card_holds'). Laid BY PROGRAM, IN A SANDBOX (cutbox-door.mjs). By AI agents, Wed Nov 11 2026. No macro, syntax, notation, axiom, sorry.
-/
import Derived.Test.YtjcklmhkdpbbdaaDoorRows
import GoSem.ClaimSeven
namespace Go.Proofs.YtjcklmhkdpbbdaaDoor
namespace Rows

/-- THE TIED CARD OF 'portreevelaw03.ShaSums'. -/
def shaSumsCard : Claim7 := { stood := { row := shaSumsRow, standIns := [], harness := (true, "8ef4ea5af36bb8af24dc644816ea947091582441ce2f2e559dd58982255be212"), looks := false }, kinds := [], alts := [], laidByText := true, laidKinds := [.data, .data], laidTests := true, laidLooks := .later }
def ShaSumsCardSaid : Prop := Claim7.holds Tryd.pinned (.plain (OpenSpec.ofChange shaSumsSpec)) shaSumsCard

/-- THE TIED CARD OF 'portreevelaw03.ShaPads'. -/
def shaPadsCard : Claim7 := { stood := { row := shaPadsRow, standIns := [], harness := (true, "8ef4ea5af36bb8af24dc644816ea947091582441ce2f2e559dd58982255be212"), looks := false }, kinds := [], alts := [], laidByText := true, laidKinds := [.data, .data], laidTests := true, laidLooks := .later }
def ShaPadsCardSaid : Prop := Claim7.holds Tryd.pinned (.plain (OpenSpec.ofChange shaPadsSpec)) shaPadsCard

/-- THE TIED CARD OF 'portreevelaw03.ShaBlocks'. -/
def shaBlocksCard : Claim7 := { stood := { row := shaBlocksRow, standIns := [], harness := (true, "8ef4ea5af36bb8af24dc644816ea947091582441ce2f2e559dd58982255be212"), looks := false }, kinds := [], alts := [], laidByText := true, laidKinds := [.data, .data], laidTests := true, laidLooks := .later }
def ShaBlocksCardSaid : Prop := Claim7.holds Tryd.pinned (.plain (OpenSpec.ofChange shaBlocksSpec)) shaBlocksCard

/-- THE TIED CARD OF 'portreevelaw03.ShaWrites'. -/
def shaWritesCard : Claim7 := { stood := { row := shaWritesRow, standIns := [], harness := (true, "8ef4ea5af36bb8af24dc644816ea947091582441ce2f2e559dd58982255be212"), looks := false }, kinds := [], alts := [], laidByText := true, laidKinds := [.data, .data], laidTests := true, laidLooks := .later }
def ShaWritesCardSaid : Prop := Claim7.holds Tryd.pinned (.plain (OpenSpec.ofChange shaWritesSpec)) shaWritesCard

/-- THE TIED CARD OF 'portreevelaw03.ShaClones'. -/
def shaClonesCard : Claim7 := { stood := { row := shaClonesRow, standIns := [], harness := (true, "8ef4ea5af36bb8af24dc644816ea947091582441ce2f2e559dd58982255be212"), looks := false }, kinds := [], alts := [], laidByText := true, laidKinds := [.data, .data], laidTests := true, laidLooks := .later }
def ShaClonesCardSaid : Prop := Claim7.holds Tryd.pinned (.plain (OpenSpec.ofChange shaClonesSpec)) shaClonesCard

/-- THE TIED CARD OF 'portreevelaw25.MeasAdds'. -/
def measAddsCard : Claim7 := { stood := { row := measAddsRow, standIns := [], harness := (true, "8ef4ea5af36bb8af24dc644816ea947091582441ce2f2e559dd58982255be212"), looks := false }, kinds := [], alts := [], laidByText := true, laidKinds := [.data, .data], laidTests := true, laidLooks := .later }
def MeasAddsCardSaid : Prop := Claim7.holds Tryd.pinned (.plain (OpenSpec.ofChange measAddsSpec)) measAddsCard

/-- THE TIED CARD OF 'portreevelaw25.MeasFolds'. -/
def measFoldsCard : Claim7 := { stood := { row := measFoldsRow, standIns := [], harness := (true, "8ef4ea5af36bb8af24dc644816ea947091582441ce2f2e559dd58982255be212"), looks := false }, kinds := [], alts := [], laidByText := true, laidKinds := [.data, .data], laidTests := true, laidLooks := .later }
def MeasFoldsCardSaid : Prop := Claim7.holds Tryd.pinned (.plain (OpenSpec.ofChange measFoldsSpec)) measFoldsCard

/-- THE TIED CARD OF 'portreevelaw25.MeasOn'. -/
def measOnCard : Claim7 := { stood := { row := measOnRow, standIns := [], harness := (true, "8ef4ea5af36bb8af24dc644816ea947091582441ce2f2e559dd58982255be212"), looks := false }, kinds := [], alts := [], laidByText := true, laidKinds := [.data, .data], laidTests := true, laidLooks := .later }
def MeasOnCardSaid : Prop := Claim7.holds Tryd.pinned (.plain (OpenSpec.ofChange measOnSpec)) measOnCard

/-- THE TIED CARD OF 'portreevelaw03.ShaTables'. -/
def shaTablesCard : Claim7 := { stood := { row := shaTablesRow, standIns := [], harness := (true, "8ef4ea5af36bb8af24dc644816ea947091582441ce2f2e559dd58982255be212"), looks := false }, kinds := [], alts := [], laidByText := true, laidKinds := [.data, .data], laidTests := true, laidLooks := .later }
def ShaTablesCardSaid : Prop := Claim7.holds Tryd.pinned (.plain (OpenSpec.ofChange shaTablesSpec)) shaTablesCard

/-- THE TIED CARD OF 'portreevelaw25.MeasLogs'. -/
def measLogsCard : Claim7 := { stood := { row := measLogsRow, standIns := [], harness := (true, "8ef4ea5af36bb8af24dc644816ea947091582441ce2f2e559dd58982255be212"), looks := false }, kinds := [], alts := [], laidByText := true, laidKinds := [.data, .data], laidTests := true, laidLooks := .later }
def MeasLogsCardSaid : Prop := Claim7.holds Tryd.pinned (.plain (OpenSpec.ofChange measLogsSpec)) measLogsCard

/-- THE TIED CARD OF 'portreevelaw25.MeasBack'. -/
def measBackCard : Claim7 := { stood := { row := measBackRow, standIns := [], harness := (true, "8ef4ea5af36bb8af24dc644816ea947091582441ce2f2e559dd58982255be212"), looks := false }, kinds := [], alts := [], laidByText := true, laidKinds := [.data, .data], laidTests := true, laidLooks := .later }
def MeasBackCardSaid : Prop := Claim7.holds Tryd.pinned (.plain (OpenSpec.ofChange measBackSpec)) measBackCard

/-- THE SECOND FORM's CARD OF 'portreevelaw03.ShaSums'. -/
def shaSumsUptoCard : Claim7 := { stood := { row := shaSumsUptoRow, standIns := [], harness := (true, "8ef4ea5af36bb8af24dc644816ea947091582441ce2f2e559dd58982255be212"), looks := false }, kinds := [], alts := [], laidByText := true, laidKinds := [.data, .data], laidTests := true, laidLooks := .later }
def ShaSumsUptoCardSaid : Prop := Claim7.holds Tryd.pinned (.plain (OpenSpec.upto shaSumsSpec)) shaSumsUptoCard

/-- THE SECOND FORM's CARD OF 'portreevelaw03.ShaPads'. -/
def shaPadsUptoCard : Claim7 := { stood := { row := shaPadsUptoRow, standIns := [], harness := (true, "8ef4ea5af36bb8af24dc644816ea947091582441ce2f2e559dd58982255be212"), looks := false }, kinds := [], alts := [], laidByText := true, laidKinds := [.data, .data], laidTests := true, laidLooks := .later }
def ShaPadsUptoCardSaid : Prop := Claim7.holds Tryd.pinned (.plain (OpenSpec.upto shaPadsSpec)) shaPadsUptoCard

/-- THE SECOND FORM's CARD OF 'portreevelaw03.ShaBlocks'. -/
def shaBlocksUptoCard : Claim7 := { stood := { row := shaBlocksUptoRow, standIns := [], harness := (true, "8ef4ea5af36bb8af24dc644816ea947091582441ce2f2e559dd58982255be212"), looks := false }, kinds := [], alts := [], laidByText := true, laidKinds := [.data, .data], laidTests := true, laidLooks := .later }
def ShaBlocksUptoCardSaid : Prop := Claim7.holds Tryd.pinned (.plain (OpenSpec.upto shaBlocksSpec)) shaBlocksUptoCard

/-- THE SECOND FORM's CARD OF 'portreevelaw03.ShaWrites'. -/
def shaWritesUptoCard : Claim7 := { stood := { row := shaWritesUptoRow, standIns := [], harness := (true, "8ef4ea5af36bb8af24dc644816ea947091582441ce2f2e559dd58982255be212"), looks := false }, kinds := [], alts := [], laidByText := true, laidKinds := [.data, .data], laidTests := true, laidLooks := .later }
def ShaWritesUptoCardSaid : Prop := Claim7.holds Tryd.pinned (.plain (OpenSpec.upto shaWritesSpec)) shaWritesUptoCard

/-- THE SECOND FORM's CARD OF 'portreevelaw03.ShaClones'. -/
def shaClonesUptoCard : Claim7 := { stood := { row := shaClonesUptoRow, standIns := [], harness := (true, "8ef4ea5af36bb8af24dc644816ea947091582441ce2f2e559dd58982255be212"), looks := false }, kinds := [], alts := [], laidByText := true, laidKinds := [.data, .data], laidTests := true, laidLooks := .later }
def ShaClonesUptoCardSaid : Prop := Claim7.holds Tryd.pinned (.plain (OpenSpec.upto shaClonesSpec)) shaClonesUptoCard

/-- THE SECOND FORM's CARD OF 'portreevelaw25.MeasAdds'. -/
def measAddsUptoCard : Claim7 := { stood := { row := measAddsUptoRow, standIns := [], harness := (true, "8ef4ea5af36bb8af24dc644816ea947091582441ce2f2e559dd58982255be212"), looks := false }, kinds := [], alts := [], laidByText := true, laidKinds := [.data, .data], laidTests := true, laidLooks := .later }
def MeasAddsUptoCardSaid : Prop := Claim7.holds Tryd.pinned (.plain (OpenSpec.upto measAddsSpec)) measAddsUptoCard

/-- THE SECOND FORM's CARD OF 'portreevelaw25.MeasFolds'. -/
def measFoldsUptoCard : Claim7 := { stood := { row := measFoldsUptoRow, standIns := [], harness := (true, "8ef4ea5af36bb8af24dc644816ea947091582441ce2f2e559dd58982255be212"), looks := false }, kinds := [], alts := [], laidByText := true, laidKinds := [.data, .data], laidTests := true, laidLooks := .later }
def MeasFoldsUptoCardSaid : Prop := Claim7.holds Tryd.pinned (.plain (OpenSpec.upto measFoldsSpec)) measFoldsUptoCard

/-- THE SECOND FORM's CARD OF 'portreevelaw25.MeasOn'. -/
def measOnUptoCard : Claim7 := { stood := { row := measOnUptoRow, standIns := [], harness := (true, "8ef4ea5af36bb8af24dc644816ea947091582441ce2f2e559dd58982255be212"), looks := false }, kinds := [], alts := [], laidByText := true, laidKinds := [.data, .data], laidTests := true, laidLooks := .later }
def MeasOnUptoCardSaid : Prop := Claim7.holds Tryd.pinned (.plain (OpenSpec.upto measOnSpec)) measOnUptoCard

/-- THE SECOND FORM's CARD OF 'portreevelaw03.ShaTables'. -/
def shaTablesUptoCard : Claim7 := { stood := { row := shaTablesUptoRow, standIns := [], harness := (true, "8ef4ea5af36bb8af24dc644816ea947091582441ce2f2e559dd58982255be212"), looks := false }, kinds := [], alts := [], laidByText := true, laidKinds := [.data, .data], laidTests := true, laidLooks := .later }
def ShaTablesUptoCardSaid : Prop := Claim7.holds Tryd.pinned (.plain (OpenSpec.upto shaTablesSpec)) shaTablesUptoCard

/-- THE SECOND FORM's CARD OF 'portreevelaw25.MeasLogs'. -/
def measLogsUptoCard : Claim7 := { stood := { row := measLogsUptoRow, standIns := [], harness := (true, "8ef4ea5af36bb8af24dc644816ea947091582441ce2f2e559dd58982255be212"), looks := false }, kinds := [], alts := [], laidByText := true, laidKinds := [.data, .data], laidTests := true, laidLooks := .later }
def MeasLogsUptoCardSaid : Prop := Claim7.holds Tryd.pinned (.plain (OpenSpec.upto measLogsSpec)) measLogsUptoCard

/-- THE SECOND FORM's CARD OF 'portreevelaw25.MeasBack'. -/
def measBackUptoCard : Claim7 := { stood := { row := measBackUptoRow, standIns := [], harness := (true, "8ef4ea5af36bb8af24dc644816ea947091582441ce2f2e559dd58982255be212"), looks := false }, kinds := [], alts := [], laidByText := true, laidKinds := [.data, .data], laidTests := true, laidLooks := .later }
def MeasBackUptoCardSaid : Prop := Claim7.holds Tryd.pinned (.plain (OpenSpec.upto measBackSpec)) measBackUptoCard
end Rows
end Go.Proofs.YtjcklmhkdpbbdaaDoor
