/-
  DERIVED. GIVEN WITH THE SEED: THE CARDS: each row of YtjliamckoggnbaaDoorRows.lean that lists a variable, with what it lists TIED to the program's text (the seventh form; the later family's looks); each row that meets fmt, with fmt's text TOLD by the authors' own Lean function (tested against real Go, not proved from fmt's source: count such statements apart). THE CARD IS WHAT COUNTS. Prove the row's statement (the work); the ties are given (YtjliamckoggnbaaDoorTie.lean); close each card by the builder's one call (the guide's Derived/Test/ToyasCard.lean, 'card_holds'). Laid BY PROGRAM, IN A SANDBOX (cutbox-door.mjs). By AI agents, Wed Nov 11 2026. No macro, syntax, notation, axiom, sorry.
-/
import Derived.Test.YtjliamckoggnbaaDoorRows
import GoSem.ClaimSeven
namespace Go.Proofs.YtjliamckoggnbaaDoor
namespace Rows

/-- THE TIED CARD OF 'scantlinglaw03.HllOf'. -/
def hllOfCard : Claim7 := { stood := { row := hllOfRow, standIns := [], harness := (true, "5f563a418a5427358184f71f181b4fa37efb969f58a157f7e5b7e78e9c908b57"), looks := false }, kinds := [], alts := [], laidByText := true, laidKinds := [.data], laidTests := true, laidLooks := .later }
def HllOfCardSaid : Prop := Claim7.holds Tryd.pinned (.plain (OpenSpec.ofChange hllOfSpec)) hllOfCard

/-- THE TIED CARD OF 'scantlinglaw03.HllOrder'. -/
def hllOrderCard : Claim7 := { stood := { row := hllOrderRow, standIns := [], harness := (true, "5f563a418a5427358184f71f181b4fa37efb969f58a157f7e5b7e78e9c908b57"), looks := false }, kinds := [], alts := [], laidByText := true, laidKinds := [.data], laidTests := true, laidLooks := .later }
def HllOrderCardSaid : Prop := Claim7.holds Tryd.pinned (.plain (OpenSpec.ofChange hllOrderSpec)) hllOrderCard

/-- THE TIED CARD OF 'scantlinglaw03.HllRegisters'. -/
def hllRegistersCard : Claim7 := { stood := { row := hllRegistersRow, standIns := [], harness := (true, "5f563a418a5427358184f71f181b4fa37efb969f58a157f7e5b7e78e9c908b57"), looks := false }, kinds := [], alts := [], laidByText := true, laidKinds := [.data], laidTests := true, laidLooks := .later }
def HllRegistersCardSaid : Prop := Claim7.holds Tryd.pinned (.plain (OpenSpec.ofChange hllRegistersSpec)) hllRegistersCard

/-- THE TIED CARD OF 'scantlinglaw03.HllWrong'. -/
def hllWrongCard : Claim7 := { stood := { row := hllWrongRow, standIns := [], harness := (true, "5f563a418a5427358184f71f181b4fa37efb969f58a157f7e5b7e78e9c908b57"), looks := false }, kinds := [], alts := [], laidByText := true, laidKinds := [.data], laidTests := true, laidLooks := .later }
def HllWrongCardSaid : Prop := Claim7.holds Tryd.pinned (.plain (OpenSpec.ofChange hllWrongSpec)) hllWrongCard

/-- THE TIED CARD OF 'scantlinglaw03.HllFew'. -/
def hllFewCard : Claim7 := { stood := { row := hllFewRow, standIns := [], harness := (true, "5f563a418a5427358184f71f181b4fa37efb969f58a157f7e5b7e78e9c908b57"), looks := false }, kinds := [], alts := [], laidByText := true, laidKinds := [.data], laidTests := true, laidLooks := .later }
def HllFewCardSaid : Prop := Claim7.holds Tryd.pinned (.plain (OpenSpec.ofChange hllFewSpec)) hllFewCard

/-- THE TIED CARD OF 'scantlinglaw03.HllMerge'. -/
def hllMergeCard : Claim7 := { stood := { row := hllMergeRow, standIns := [], harness := (true, "5f563a418a5427358184f71f181b4fa37efb969f58a157f7e5b7e78e9c908b57"), looks := false }, kinds := [], alts := [], laidByText := true, laidKinds := [.data], laidTests := true, laidLooks := .later }
def HllMergeCardSaid : Prop := Claim7.holds Tryd.pinned (.plain (OpenSpec.ofChange hllMergeSpec)) hllMergeCard

/-- THE TIED CARD OF 'scantlinglaw03.HllPlays'. -/
def hllPlaysCard : Claim7 := { stood := { row := hllPlaysRow, standIns := [], harness := (true, "5f563a418a5427358184f71f181b4fa37efb969f58a157f7e5b7e78e9c908b57"), looks := false }, kinds := [], alts := [], laidByText := true, laidKinds := [.data], laidTests := true, laidLooks := .later }
def HllPlaysCardSaid : Prop := Claim7.holds Tryd.pinned (.plain (OpenSpec.ofChange hllPlaysSpec)) hllPlaysCard

/-- THE SECOND FORM's CARD OF 'scantlinglaw03.HllOf'. -/
def hllOfUptoCard : Claim7 := { stood := { row := hllOfUptoRow, standIns := [], harness := (true, "5f563a418a5427358184f71f181b4fa37efb969f58a157f7e5b7e78e9c908b57"), looks := false }, kinds := [], alts := [], laidByText := true, laidKinds := [.data], laidTests := true, laidLooks := .later }
def HllOfUptoCardSaid : Prop := Claim7.holds Tryd.pinned (.plain (OpenSpec.upto hllOfSpec)) hllOfUptoCard

/-- THE SECOND FORM's CARD OF 'scantlinglaw03.HllOrder'. -/
def hllOrderUptoCard : Claim7 := { stood := { row := hllOrderUptoRow, standIns := [], harness := (true, "5f563a418a5427358184f71f181b4fa37efb969f58a157f7e5b7e78e9c908b57"), looks := false }, kinds := [], alts := [], laidByText := true, laidKinds := [.data], laidTests := true, laidLooks := .later }
def HllOrderUptoCardSaid : Prop := Claim7.holds Tryd.pinned (.plain (OpenSpec.upto hllOrderSpec)) hllOrderUptoCard

/-- THE SECOND FORM's CARD OF 'scantlinglaw03.HllRegisters'. -/
def hllRegistersUptoCard : Claim7 := { stood := { row := hllRegistersUptoRow, standIns := [], harness := (true, "5f563a418a5427358184f71f181b4fa37efb969f58a157f7e5b7e78e9c908b57"), looks := false }, kinds := [], alts := [], laidByText := true, laidKinds := [.data], laidTests := true, laidLooks := .later }
def HllRegistersUptoCardSaid : Prop := Claim7.holds Tryd.pinned (.plain (OpenSpec.upto hllRegistersSpec)) hllRegistersUptoCard

/-- THE SECOND FORM's CARD OF 'scantlinglaw03.HllWrong'. -/
def hllWrongUptoCard : Claim7 := { stood := { row := hllWrongUptoRow, standIns := [], harness := (true, "5f563a418a5427358184f71f181b4fa37efb969f58a157f7e5b7e78e9c908b57"), looks := false }, kinds := [], alts := [], laidByText := true, laidKinds := [.data], laidTests := true, laidLooks := .later }
def HllWrongUptoCardSaid : Prop := Claim7.holds Tryd.pinned (.plain (OpenSpec.upto hllWrongSpec)) hllWrongUptoCard

/-- THE SECOND FORM's CARD OF 'scantlinglaw03.HllFew'. -/
def hllFewUptoCard : Claim7 := { stood := { row := hllFewUptoRow, standIns := [], harness := (true, "5f563a418a5427358184f71f181b4fa37efb969f58a157f7e5b7e78e9c908b57"), looks := false }, kinds := [], alts := [], laidByText := true, laidKinds := [.data], laidTests := true, laidLooks := .later }
def HllFewUptoCardSaid : Prop := Claim7.holds Tryd.pinned (.plain (OpenSpec.upto hllFewSpec)) hllFewUptoCard

/-- THE SECOND FORM's CARD OF 'scantlinglaw03.HllMerge'. -/
def hllMergeUptoCard : Claim7 := { stood := { row := hllMergeUptoRow, standIns := [], harness := (true, "5f563a418a5427358184f71f181b4fa37efb969f58a157f7e5b7e78e9c908b57"), looks := false }, kinds := [], alts := [], laidByText := true, laidKinds := [.data], laidTests := true, laidLooks := .later }
def HllMergeUptoCardSaid : Prop := Claim7.holds Tryd.pinned (.plain (OpenSpec.upto hllMergeSpec)) hllMergeUptoCard

/-- THE SECOND FORM's CARD OF 'scantlinglaw03.HllPlays'. -/
def hllPlaysUptoCard : Claim7 := { stood := { row := hllPlaysUptoRow, standIns := [], harness := (true, "5f563a418a5427358184f71f181b4fa37efb969f58a157f7e5b7e78e9c908b57"), looks := false }, kinds := [], alts := [], laidByText := true, laidKinds := [.data], laidTests := true, laidLooks := .later }
def HllPlaysUptoCardSaid : Prop := Claim7.holds Tryd.pinned (.plain (OpenSpec.upto hllPlaysSpec)) hllPlaysUptoCard
end Rows
end Go.Proofs.YtjliamckoggnbaaDoor
