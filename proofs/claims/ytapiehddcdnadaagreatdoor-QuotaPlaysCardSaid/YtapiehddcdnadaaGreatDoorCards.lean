/-
  DERIVED. GIVEN WITH THE SEED: THE CARDS: each row of YtapiehddcdnadaaGreatDoorRows.lean that lists a variable, with what it lists TIED to the program's text (the seventh form; the later family's looks); each row that meets fmt, with fmt's text TOLD by the authors' own Lean function (tested against real Go, not proved from fmt's source: count such statements apart). THE CARD IS WHAT COUNTS. Prove the row's statement (the work); the ties are given (YtapiehddcdnadaaGreatDoorTie.lean); close each card by the builder's one call (the guide's Derived/Test/ToyasCard.lean, 'card_holds'). Laid BY PROGRAM, IN A SANDBOX (cutbox-door.mjs). By AI agents, Wed Nov 11 2026. No macro, syntax, notation, axiom, sorry.
-/
import Derived.Test.YtapiehddcdnadaaGreatDoorRows
import GoSem.ClaimSeven
namespace Go.Proofs.YtapiehddcdnadaaGreatDoor
namespace Rows

/-- THE TIED CARD OF 'scantlinglaw14.QuotaPlays'. -/
def quotaPlaysCard : Claim7 := { stood := { row := quotaPlaysRow, standIns := [], harness := (true, "af4fee4ef5edd3f2a70096e987e1290a0f4f793bf6e8854232d562c990af3167"), looks := false }, kinds := [], alts := [], laidByText := true, laidKinds := [.data], laidTests := true, laidLooks := .later }
def QuotaPlaysCardSaid : Prop := Claim7.holds Tryz.pinned (.plain (OpenSpec.ofChange quotaPlaysSpec)) quotaPlaysCard

/-- THE TIED CARD OF 'scantlinglaw14.QuotaOf'. -/
def quotaOfCard : Claim7 := { stood := { row := quotaOfRow, standIns := [], harness := (true, "af4fee4ef5edd3f2a70096e987e1290a0f4f793bf6e8854232d562c990af3167"), looks := false }, kinds := [], alts := [], laidByText := true, laidKinds := [.data], laidTests := true, laidLooks := .later }
def QuotaOfCardSaid : Prop := Claim7.holds Tryz.pinned (.plain (OpenSpec.ofChange quotaOfSpec)) quotaOfCard

/-- THE SECOND FORM's CARD OF 'scantlinglaw14.QuotaPlays'. -/
def quotaPlaysUptoCard : Claim7 := { stood := { row := quotaPlaysUptoRow, standIns := [], harness := (true, "af4fee4ef5edd3f2a70096e987e1290a0f4f793bf6e8854232d562c990af3167"), looks := false }, kinds := [], alts := [], laidByText := true, laidKinds := [.data], laidTests := true, laidLooks := .later }
def QuotaPlaysUptoCardSaid : Prop := Claim7.holds Tryz.pinned (.plain (OpenSpec.upto quotaPlaysSpec)) quotaPlaysUptoCard

/-- THE SECOND FORM's CARD OF 'scantlinglaw14.QuotaOf'. -/
def quotaOfUptoCard : Claim7 := { stood := { row := quotaOfUptoRow, standIns := [], harness := (true, "af4fee4ef5edd3f2a70096e987e1290a0f4f793bf6e8854232d562c990af3167"), looks := false }, kinds := [], alts := [], laidByText := true, laidKinds := [.data], laidTests := true, laidLooks := .later }
def QuotaOfUptoCardSaid : Prop := Claim7.holds Tryz.pinned (.plain (OpenSpec.upto quotaOfSpec)) quotaOfUptoCard
end Rows
end Go.Proofs.YtapiehddcdnadaaGreatDoor
