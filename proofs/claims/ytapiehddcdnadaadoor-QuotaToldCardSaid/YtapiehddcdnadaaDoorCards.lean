/-
  DERIVED. GIVEN WITH THE SEED: THE CARDS: each row of YtapiehddcdnadaaDoorRows.lean that lists a variable, with what it lists TIED to the program's text (the seventh form; the later family's looks); each row that meets fmt, with fmt's text TOLD by the authors' own Lean function (tested against real Go, not proved from fmt's source: count such statements apart). THE CARD IS WHAT COUNTS. Prove the row's statement (the work); the ties are given (YtapiehddcdnadaaDoorTie.lean); close each card by the builder's one call (the guide's Derived/Test/ToyasCard.lean, 'card_holds'). Laid BY PROGRAM, IN A SANDBOX (cutbox-door.mjs). By AI agents, Wed Nov 11 2026. No macro, syntax, notation, axiom, sorry.
-/
import Derived.Test.YtapiehddcdnadaaDoorRows
import GoSem.ClaimSeven
namespace Go.Proofs.YtapiehddcdnadaaDoor
namespace Rows

/-- THE TIED CARD OF 'scantlinglaw14.QuotaKnown'. -/
def quotaKnownCard : Claim7 := { stood := { row := quotaKnownRow, standIns := [], harness := (true, "c76294d2678e760a9ff0d33582540969abe330642aa6aa90d3cf6f6ebd8c233d"), looks := false }, kinds := [], alts := [], laidByText := true, laidKinds := [.data], laidTests := true, laidLooks := .later }
def QuotaKnownCardSaid : Prop := Claim7.holds Tryd.pinned (.plain (OpenSpec.ofChange quotaKnownSpec)) quotaKnownCard

/-- THE TIED CARD OF 'scantlinglaw14.QuotaRolls'. -/
def quotaRollsCard : Claim7 := { stood := { row := quotaRollsRow, standIns := [], harness := (true, "c76294d2678e760a9ff0d33582540969abe330642aa6aa90d3cf6f6ebd8c233d"), looks := false }, kinds := [], alts := [], laidByText := true, laidKinds := [.data], laidTests := true, laidLooks := .later }
def QuotaRollsCardSaid : Prop := Claim7.holds Tryd.pinned (.plain (OpenSpec.ofChange quotaRollsSpec)) quotaRollsCard

/-- THE TIED CARD OF 'scantlinglaw14.QuotaTold'. -/
def quotaToldCard : Claim7 := { stood := { row := quotaToldRow, standIns := [], harness := (true, "c76294d2678e760a9ff0d33582540969abe330642aa6aa90d3cf6f6ebd8c233d"), looks := false }, kinds := [], alts := [], laidByText := true, laidKinds := [.data], laidTests := true, laidLooks := .later }
def QuotaToldCardSaid : Prop := Claim7.holds Tryd.pinned (.plain (OpenSpec.ofChange quotaToldSpec)) quotaToldCard

/-- THE TIED CARD OF 'scantlinglaw14.QuotaPolicy'. -/
def quotaPolicyCard : Claim7 := { stood := { row := quotaPolicyRow, standIns := [], harness := (true, "c76294d2678e760a9ff0d33582540969abe330642aa6aa90d3cf6f6ebd8c233d"), looks := false }, kinds := [], alts := [], laidByText := true, laidKinds := [.data], laidTests := true, laidLooks := .later }
def QuotaPolicyCardSaid : Prop := Claim7.holds Tryd.pinned (.plain (OpenSpec.ofChange quotaPolicySpec)) quotaPolicyCard

/-- THE SECOND FORM's CARD OF 'scantlinglaw14.QuotaKnown'. -/
def quotaKnownUptoCard : Claim7 := { stood := { row := quotaKnownUptoRow, standIns := [], harness := (true, "c76294d2678e760a9ff0d33582540969abe330642aa6aa90d3cf6f6ebd8c233d"), looks := false }, kinds := [], alts := [], laidByText := true, laidKinds := [.data], laidTests := true, laidLooks := .later }
def QuotaKnownUptoCardSaid : Prop := Claim7.holds Tryd.pinned (.plain (OpenSpec.upto quotaKnownSpec)) quotaKnownUptoCard

/-- THE SECOND FORM's CARD OF 'scantlinglaw14.QuotaRolls'. -/
def quotaRollsUptoCard : Claim7 := { stood := { row := quotaRollsUptoRow, standIns := [], harness := (true, "c76294d2678e760a9ff0d33582540969abe330642aa6aa90d3cf6f6ebd8c233d"), looks := false }, kinds := [], alts := [], laidByText := true, laidKinds := [.data], laidTests := true, laidLooks := .later }
def QuotaRollsUptoCardSaid : Prop := Claim7.holds Tryd.pinned (.plain (OpenSpec.upto quotaRollsSpec)) quotaRollsUptoCard

/-- THE SECOND FORM's CARD OF 'scantlinglaw14.QuotaTold'. -/
def quotaToldUptoCard : Claim7 := { stood := { row := quotaToldUptoRow, standIns := [], harness := (true, "c76294d2678e760a9ff0d33582540969abe330642aa6aa90d3cf6f6ebd8c233d"), looks := false }, kinds := [], alts := [], laidByText := true, laidKinds := [.data], laidTests := true, laidLooks := .later }
def QuotaToldUptoCardSaid : Prop := Claim7.holds Tryd.pinned (.plain (OpenSpec.upto quotaToldSpec)) quotaToldUptoCard

/-- THE SECOND FORM's CARD OF 'scantlinglaw14.QuotaPolicy'. -/
def quotaPolicyUptoCard : Claim7 := { stood := { row := quotaPolicyUptoRow, standIns := [], harness := (true, "c76294d2678e760a9ff0d33582540969abe330642aa6aa90d3cf6f6ebd8c233d"), looks := false }, kinds := [], alts := [], laidByText := true, laidKinds := [.data], laidTests := true, laidLooks := .later }
def QuotaPolicyUptoCardSaid : Prop := Claim7.holds Tryd.pinned (.plain (OpenSpec.upto quotaPolicySpec)) quotaPolicyUptoCard
end Rows
end Go.Proofs.YtapiehddcdnadaaDoor
