/-
  DERIVED. GIVEN WITH THE SEED: THE CARDS: each row of YtcmahpddjggcaaaGreatDoorRows.lean that lists a variable, with what it lists TIED to the program's text (the seventh form; the later family's looks); each row that meets fmt, with fmt's text TOLD by the authors' own Lean function (tested against real Go, not proved from fmt's source: count such statements apart). THE CARD IS WHAT COUNTS. Prove the row's statement (the work); the ties are given (YtcmahpddjggcaaaGreatDoorTie.lean); close each card by the builder's one call (the guide's Derived/Test/ToyasCard.lean, 'card_holds'). Laid BY PROGRAM, IN A SANDBOX (cutbox-door.mjs). By AI agents, Wed Nov 11 2026. No macro, syntax, notation, axiom, sorry.
-/
import Derived.Test.YtcmahpddjggcaaaGreatDoorRows
import GoSem.ClaimSeven
namespace Go.Proofs.YtcmahpddjggcaaaGreatDoor
namespace Rows

/-- THE TIED CARD OF 'latticelaw12.IndexNil'. -/
def indexNilCard : Claim7 := { stood := { row := indexNilRow, standIns := [], harness := (true, "2371a01470d468aca4835cc5f590a24e991f3685cb4423f3161f815bef10cf95"), looks := true }, kinds := [], alts := [], laidByText := true, laidKinds := [.data, .pinned], laidTests := true, laidLooks := .later }
def IndexNilCardSaid : Prop := Claim7.holds Tryz.pinned (.plain (OpenSpec.ofChange indexNilSpec)) indexNilCard

/-- THE TIED CARD OF 'latticelaw12.IndexKept'. -/
def indexKeptCard : Claim7 := { stood := { row := indexKeptRow, standIns := [], harness := (true, "2371a01470d468aca4835cc5f590a24e991f3685cb4423f3161f815bef10cf95"), looks := true }, kinds := [], alts := [], laidByText := true, laidKinds := [.data, .pinned], laidTests := true, laidLooks := .later }
def IndexKeptCardSaid : Prop := Claim7.holds Tryz.pinned (.plain (OpenSpec.ofChange indexKeptSpec)) indexKeptCard

/-- THE TIED CARD OF 'latticelaw23.VersionsMeet'. -/
def versionsMeetCard : Claim7 := { stood := { row := versionsMeetRow, standIns := [], harness := (true, "2371a01470d468aca4835cc5f590a24e991f3685cb4423f3161f815bef10cf95"), looks := true }, kinds := [], alts := [], laidByText := true, laidKinds := [.data, .pinned], laidTests := true, laidLooks := .later }
def VersionsMeetCardSaid : Prop := Claim7.holds Tryz.pinned (.plain (OpenSpec.ofChange versionsMeetSpec)) versionsMeetCard

/-- THE TIED CARD OF 'latticelaw23.VersionsTwo'. -/
def versionsTwoCard : Claim7 := { stood := { row := versionsTwoRow, standIns := [], harness := (true, "2371a01470d468aca4835cc5f590a24e991f3685cb4423f3161f815bef10cf95"), looks := true }, kinds := [], alts := [], laidByText := true, laidKinds := [.data, .pinned], laidTests := true, laidLooks := .later }
def VersionsTwoCardSaid : Prop := Claim7.holds Tryz.pinned (.plain (OpenSpec.ofChange versionsTwoSpec)) versionsTwoCard

/-- THE TIED CARD OF 'latticelaw23.VersionsPlay'. -/
def versionsPlayCard : Claim7 := { stood := { row := versionsPlayRow, standIns := [], harness := (true, "2371a01470d468aca4835cc5f590a24e991f3685cb4423f3161f815bef10cf95"), looks := true }, kinds := [], alts := [], laidByText := true, laidKinds := [.data, .pinned], laidTests := true, laidLooks := .later }
def VersionsPlayCardSaid : Prop := Claim7.holds Tryz.pinned (.plain (OpenSpec.ofChange versionsPlaySpec)) versionsPlayCard

/-- THE TIED CARD OF 'latticelaw23.VersionsNil'. -/
def versionsNilCard : Claim7 := { stood := { row := versionsNilRow, standIns := [], harness := (true, "2371a01470d468aca4835cc5f590a24e991f3685cb4423f3161f815bef10cf95"), looks := true }, kinds := [], alts := [], laidByText := true, laidKinds := [.data, .pinned], laidTests := true, laidLooks := .later }
def VersionsNilCardSaid : Prop := Claim7.holds Tryz.pinned (.plain (OpenSpec.ofChange versionsNilSpec)) versionsNilCard

/-- THE TIED CARD OF 'latticelaw05.GraphKeeps'. -/
def graphKeepsCard : Claim7 := { stood := { row := graphKeepsRow, standIns := [], harness := (true, "2371a01470d468aca4835cc5f590a24e991f3685cb4423f3161f815bef10cf95"), looks := true }, kinds := [], alts := [], laidByText := true, laidKinds := [.data, .pinned], laidTests := true, laidLooks := .later }
def GraphKeepsCardSaid : Prop := Claim7.holds Tryz.pinned (.plain (OpenSpec.ofChange graphKeepsSpec)) graphKeepsCard

/-- THE TIED CARD OF 'latticelaw05.GraphApply'. -/
def graphApplyCard : Claim7 := { stood := { row := graphApplyRow, standIns := [], harness := (true, "2371a01470d468aca4835cc5f590a24e991f3685cb4423f3161f815bef10cf95"), looks := true }, kinds := [], alts := [], laidByText := true, laidKinds := [.data, .pinned], laidTests := true, laidLooks := .later }
def GraphApplyCardSaid : Prop := Claim7.holds Tryz.pinned (.plain (OpenSpec.ofChange graphApplySpec)) graphApplyCard

/-- THE TIED CARD OF 'latticelaw05.GraphPlay'. -/
def graphPlayCard : Claim7 := { stood := { row := graphPlayRow, standIns := [], harness := (true, "2371a01470d468aca4835cc5f590a24e991f3685cb4423f3161f815bef10cf95"), looks := true }, kinds := [], alts := [], laidByText := true, laidKinds := [.data, .pinned], laidTests := true, laidLooks := .later }
def GraphPlayCardSaid : Prop := Claim7.holds Tryz.pinned (.plain (OpenSpec.ofChange graphPlaySpec)) graphPlayCard

/-- THE TIED CARD OF 'latticelaw05.GraphNil'. -/
def graphNilCard : Claim7 := { stood := { row := graphNilRow, standIns := [], harness := (true, "2371a01470d468aca4835cc5f590a24e991f3685cb4423f3161f815bef10cf95"), looks := true }, kinds := [], alts := [], laidByText := true, laidKinds := [.data, .pinned], laidTests := true, laidLooks := .later }
def GraphNilCardSaid : Prop := Claim7.holds Tryz.pinned (.plain (OpenSpec.ofChange graphNilSpec)) graphNilCard

/-- THE TIED CARD OF 'latticelaw05.GraphChecks'. -/
def graphChecksCard : Claim7 := { stood := { row := graphChecksRow, standIns := [], harness := (true, "2371a01470d468aca4835cc5f590a24e991f3685cb4423f3161f815bef10cf95"), looks := true }, kinds := [], alts := [], laidByText := true, laidKinds := [.data, .pinned], laidTests := true, laidLooks := .later }
def GraphChecksCardSaid : Prop := Claim7.holds Tryz.pinned (.plain (OpenSpec.ofChange graphChecksSpec)) graphChecksCard

/-- THE TIED CARD OF 'latticelaw05.GraphDiff'. -/
def graphDiffCard : Claim7 := { stood := { row := graphDiffRow, standIns := [], harness := (true, "2371a01470d468aca4835cc5f590a24e991f3685cb4423f3161f815bef10cf95"), looks := true }, kinds := [], alts := [], laidByText := true, laidKinds := [.data, .pinned], laidTests := true, laidLooks := .later }
def GraphDiffCardSaid : Prop := Claim7.holds Tryz.pinned (.plain (OpenSpec.ofChange graphDiffSpec)) graphDiffCard

/-- THE SECOND FORM's CARD OF 'latticelaw12.IndexNil'. -/
def indexNilUptoCard : Claim7 := { stood := { row := indexNilUptoRow, standIns := [], harness := (true, "2371a01470d468aca4835cc5f590a24e991f3685cb4423f3161f815bef10cf95"), looks := true }, kinds := [], alts := [], laidByText := true, laidKinds := [.data, .pinned], laidTests := true, laidLooks := .later }
def IndexNilUptoCardSaid : Prop := Claim7.holds Tryz.pinned (.plain (OpenSpec.upto indexNilSpec)) indexNilUptoCard

/-- THE SECOND FORM's CARD OF 'latticelaw12.IndexKept'. -/
def indexKeptUptoCard : Claim7 := { stood := { row := indexKeptUptoRow, standIns := [], harness := (true, "2371a01470d468aca4835cc5f590a24e991f3685cb4423f3161f815bef10cf95"), looks := true }, kinds := [], alts := [], laidByText := true, laidKinds := [.data, .pinned], laidTests := true, laidLooks := .later }
def IndexKeptUptoCardSaid : Prop := Claim7.holds Tryz.pinned (.plain (OpenSpec.upto indexKeptSpec)) indexKeptUptoCard

/-- THE SECOND FORM's CARD OF 'latticelaw23.VersionsMeet'. -/
def versionsMeetUptoCard : Claim7 := { stood := { row := versionsMeetUptoRow, standIns := [], harness := (true, "2371a01470d468aca4835cc5f590a24e991f3685cb4423f3161f815bef10cf95"), looks := true }, kinds := [], alts := [], laidByText := true, laidKinds := [.data, .pinned], laidTests := true, laidLooks := .later }
def VersionsMeetUptoCardSaid : Prop := Claim7.holds Tryz.pinned (.plain (OpenSpec.upto versionsMeetSpec)) versionsMeetUptoCard

/-- THE SECOND FORM's CARD OF 'latticelaw23.VersionsTwo'. -/
def versionsTwoUptoCard : Claim7 := { stood := { row := versionsTwoUptoRow, standIns := [], harness := (true, "2371a01470d468aca4835cc5f590a24e991f3685cb4423f3161f815bef10cf95"), looks := true }, kinds := [], alts := [], laidByText := true, laidKinds := [.data, .pinned], laidTests := true, laidLooks := .later }
def VersionsTwoUptoCardSaid : Prop := Claim7.holds Tryz.pinned (.plain (OpenSpec.upto versionsTwoSpec)) versionsTwoUptoCard

/-- THE SECOND FORM's CARD OF 'latticelaw23.VersionsPlay'. -/
def versionsPlayUptoCard : Claim7 := { stood := { row := versionsPlayUptoRow, standIns := [], harness := (true, "2371a01470d468aca4835cc5f590a24e991f3685cb4423f3161f815bef10cf95"), looks := true }, kinds := [], alts := [], laidByText := true, laidKinds := [.data, .pinned], laidTests := true, laidLooks := .later }
def VersionsPlayUptoCardSaid : Prop := Claim7.holds Tryz.pinned (.plain (OpenSpec.upto versionsPlaySpec)) versionsPlayUptoCard

/-- THE SECOND FORM's CARD OF 'latticelaw23.VersionsNil'. -/
def versionsNilUptoCard : Claim7 := { stood := { row := versionsNilUptoRow, standIns := [], harness := (true, "2371a01470d468aca4835cc5f590a24e991f3685cb4423f3161f815bef10cf95"), looks := true }, kinds := [], alts := [], laidByText := true, laidKinds := [.data, .pinned], laidTests := true, laidLooks := .later }
def VersionsNilUptoCardSaid : Prop := Claim7.holds Tryz.pinned (.plain (OpenSpec.upto versionsNilSpec)) versionsNilUptoCard

/-- THE SECOND FORM's CARD OF 'latticelaw05.GraphKeeps'. -/
def graphKeepsUptoCard : Claim7 := { stood := { row := graphKeepsUptoRow, standIns := [], harness := (true, "2371a01470d468aca4835cc5f590a24e991f3685cb4423f3161f815bef10cf95"), looks := true }, kinds := [], alts := [], laidByText := true, laidKinds := [.data, .pinned], laidTests := true, laidLooks := .later }
def GraphKeepsUptoCardSaid : Prop := Claim7.holds Tryz.pinned (.plain (OpenSpec.upto graphKeepsSpec)) graphKeepsUptoCard

/-- THE SECOND FORM's CARD OF 'latticelaw05.GraphApply'. -/
def graphApplyUptoCard : Claim7 := { stood := { row := graphApplyUptoRow, standIns := [], harness := (true, "2371a01470d468aca4835cc5f590a24e991f3685cb4423f3161f815bef10cf95"), looks := true }, kinds := [], alts := [], laidByText := true, laidKinds := [.data, .pinned], laidTests := true, laidLooks := .later }
def GraphApplyUptoCardSaid : Prop := Claim7.holds Tryz.pinned (.plain (OpenSpec.upto graphApplySpec)) graphApplyUptoCard

/-- THE SECOND FORM's CARD OF 'latticelaw05.GraphPlay'. -/
def graphPlayUptoCard : Claim7 := { stood := { row := graphPlayUptoRow, standIns := [], harness := (true, "2371a01470d468aca4835cc5f590a24e991f3685cb4423f3161f815bef10cf95"), looks := true }, kinds := [], alts := [], laidByText := true, laidKinds := [.data, .pinned], laidTests := true, laidLooks := .later }
def GraphPlayUptoCardSaid : Prop := Claim7.holds Tryz.pinned (.plain (OpenSpec.upto graphPlaySpec)) graphPlayUptoCard

/-- THE SECOND FORM's CARD OF 'latticelaw05.GraphNil'. -/
def graphNilUptoCard : Claim7 := { stood := { row := graphNilUptoRow, standIns := [], harness := (true, "2371a01470d468aca4835cc5f590a24e991f3685cb4423f3161f815bef10cf95"), looks := true }, kinds := [], alts := [], laidByText := true, laidKinds := [.data, .pinned], laidTests := true, laidLooks := .later }
def GraphNilUptoCardSaid : Prop := Claim7.holds Tryz.pinned (.plain (OpenSpec.upto graphNilSpec)) graphNilUptoCard

/-- THE SECOND FORM's CARD OF 'latticelaw05.GraphChecks'. -/
def graphChecksUptoCard : Claim7 := { stood := { row := graphChecksUptoRow, standIns := [], harness := (true, "2371a01470d468aca4835cc5f590a24e991f3685cb4423f3161f815bef10cf95"), looks := true }, kinds := [], alts := [], laidByText := true, laidKinds := [.data, .pinned], laidTests := true, laidLooks := .later }
def GraphChecksUptoCardSaid : Prop := Claim7.holds Tryz.pinned (.plain (OpenSpec.upto graphChecksSpec)) graphChecksUptoCard

/-- THE SECOND FORM's CARD OF 'latticelaw05.GraphDiff'. -/
def graphDiffUptoCard : Claim7 := { stood := { row := graphDiffUptoRow, standIns := [], harness := (true, "2371a01470d468aca4835cc5f590a24e991f3685cb4423f3161f815bef10cf95"), looks := true }, kinds := [], alts := [], laidByText := true, laidKinds := [.data, .pinned], laidTests := true, laidLooks := .later }
def GraphDiffUptoCardSaid : Prop := Claim7.holds Tryz.pinned (.plain (OpenSpec.upto graphDiffSpec)) graphDiffUptoCard
end Rows
end Go.Proofs.YtcmahpddjggcaaaGreatDoor
