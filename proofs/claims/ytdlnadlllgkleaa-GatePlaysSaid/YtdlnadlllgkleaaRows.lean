/-
  No cell of these rows narrows 'for every input' (looked for: loops, veiled, ifaces, maps, wideKeys, modest, calm, conditions, laid).
  DERIVED. THE GIVEN ROWS OF THIS SEAT. 4 by the template 'for every input the law returns true; each argument reads behind the call as it read before'; 0 by the template 'total and deterministic' (their statements: YtdlnadlllgkleaaTotals.lean).
  GIVEN WITH THE SEED: the statements are not yours to turn. If you find one false, say at which input.
  Laid BY PROGRAM, IN A SANDBOX (cutbox-rows.mjs): the forced cells as the released guide's own fill.sh prints them over the translation fe2e034d14e95570… (all of the seat's roots in one cut). By AI agents, Wed Nov 11 2026. No macro, syntax, notation, axiom, sorry.
-/
import Derived.Test.YtdlnadlllgkleaaChecked
import GoSem.Claim
import GoSem.ClaimJoined
import GoSem.ClaimMapViews
import Derived.JoinedTies
import Derived.KernelRfl
namespace Go.Proofs.Ytdlnadlllgkleaa
/- THE CELL 'sum', in the pinned program and in every row, IS THE sha256 OF THE DUMP (.gsa) THAT YtdlnadlllgkleaaProg.lean LOADS. Nothing in Lean hashes anything: it is a label: what it is worth is what the hold of that sum in a sandbox is worth. -/
noncomputable def Try.pinned : Pinned := { name := "ytdlnadlllgkleaa", sum := "fe2e034d14e955705f1dd8a04dc13ac008bc3e30db7b124101a290c0ff926c99", checked := Try.checked }
namespace Rows
def none {H : Type} : Left H := { results := [], args := [] }

/-- 'scantlinglaw13.GatePlays': WHATEVER THE INPUT: true; the input reads as it did. -/
def gatePlaysSpec : ChangeSpec := { name := "gatePlays", fn := fun _ => fun
  | [d1, d2, d3, d4, d5, d6] => { results := [.lit (.bool true)], args := [d1, d2, d3, d4, d5, d6] }
  | _ => none }
def gatePlaysRow : OpenClaim := { program := "ytdlnadlllgkleaa", sum := "fe2e034d14e955705f1dd8a04dc13ac008bc3e30db7b124101a290c0ff926c99", func := "scantling/scantlinglaw13.GatePlays", spec := "gatePlays", unfollowed := true, recurses := true, apart := false }
def GatePlaysSaid : Prop := gatePlaysRow.holds Try.pinned (OpenSpec.ofChange gatePlaysSpec)

/-- ITS FALSE NEIGHBOUR: 'it returns false'. Refute it at one input. -/
def gatePlaysWrong : ChangeSpec := { name := "gatePlays", fn := fun _ => fun
  | [d1, d2, d3, d4, d5, d6] => { results := [.lit (.bool false)], args := [d1, d2, d3, d4, d5, d6] }
  | _ => none }
def GatePlaysWrongFalsely : Prop := gatePlaysRow.holds Try.pinned (OpenSpec.ofChange gatePlaysWrong)

/-- 'scantlinglaw13.GateOnly': WHATEVER THE INPUT: true; the input reads as it did. -/
def gateOnlySpec : ChangeSpec := { name := "gateOnly", fn := fun _ => fun
  | [d1, d2, d3] => { results := [.lit (.bool true)], args := [d1, d2, d3] }
  | _ => none }
def gateOnlyRow : OpenClaim := { program := "ytdlnadlllgkleaa", sum := "fe2e034d14e955705f1dd8a04dc13ac008bc3e30db7b124101a290c0ff926c99", func := "scantling/scantlinglaw13.GateOnly", spec := "gateOnly", apart := false }
def GateOnlySaid : Prop := gateOnlyRow.holds Try.pinned (OpenSpec.ofChange gateOnlySpec)

/-- ITS FALSE NEIGHBOUR: 'it returns false'. Refute it at one input. -/
def gateOnlyWrong : ChangeSpec := { name := "gateOnly", fn := fun _ => fun
  | [d1, d2, d3] => { results := [.lit (.bool false)], args := [d1, d2, d3] }
  | _ => none }
def GateOnlyWrongFalsely : Prop := gateOnlyRow.holds Try.pinned (OpenSpec.ofChange gateOnlyWrong)

/-- 'scantlinglaw13.GateSets': WHATEVER THE INPUT: true; the input reads as it did. -/
def gateSetsSpec : ChangeSpec := { name := "gateSets", fn := fun _ => fun
  | [d1, d2, d3, d4, d5] => { results := [.lit (.bool true)], args := [d1, d2, d3, d4, d5] }
  | _ => none }
def gateSetsRow : OpenClaim := { program := "ytdlnadlllgkleaa", sum := "fe2e034d14e955705f1dd8a04dc13ac008bc3e30db7b124101a290c0ff926c99", func := "scantling/scantlinglaw13.GateSets", spec := "gateSets", apart := false }
def GateSetsSaid : Prop := gateSetsRow.holds Try.pinned (OpenSpec.ofChange gateSetsSpec)

/-- ITS FALSE NEIGHBOUR: 'it returns false'. Refute it at one input. -/
def gateSetsWrong : ChangeSpec := { name := "gateSets", fn := fun _ => fun
  | [d1, d2, d3, d4, d5] => { results := [.lit (.bool false)], args := [d1, d2, d3, d4, d5] }
  | _ => none }
def GateSetsWrongFalsely : Prop := gateSetsRow.holds Try.pinned (OpenSpec.ofChange gateSetsWrong)

/-- 'scantlinglaw13.GateOpens': WHATEVER THE INPUT: true; the input reads as it did. -/
def gateOpensSpec : ChangeSpec := { name := "gateOpens", fn := fun _ => fun
  | [d1, d2, d3] => { results := [.lit (.bool true)], args := [d1, d2, d3] }
  | _ => none }
def gateOpensRow : OpenClaim := { program := "ytdlnadlllgkleaa", sum := "fe2e034d14e955705f1dd8a04dc13ac008bc3e30db7b124101a290c0ff926c99", func := "scantling/scantlinglaw13.GateOpens", spec := "gateOpens", apart := false }
def GateOpensSaid : Prop := gateOpensRow.holds Try.pinned (OpenSpec.ofChange gateOpensSpec)

/-- ITS FALSE NEIGHBOUR: 'it returns false'. Refute it at one input. -/
def gateOpensWrong : ChangeSpec := { name := "gateOpens", fn := fun _ => fun
  | [d1, d2, d3] => { results := [.lit (.bool false)], args := [d1, d2, d3] }
  | _ => none }
def GateOpensWrongFalsely : Prop := gateOpensRow.holds Try.pinned (OpenSpec.ofChange gateOpensWrong)

/- THE SECOND FORM. 'bulk': how many values and letters a reading holds, each counted each time it is reached (what is shared counts as often as it is met; a slice's spare places count too). A statement '..UptoSaid' is the law's where the arguments, and the package variables that the reading takes, are together of bulk at most 1048576: NARROWER than '..Said'. Prove '..Said' where nothing that the law and all that it calls make is longer than what came in: it says more and counts as full. Else prove '..UptoSaid'. A law counts once. -/
mutual
def uptoBulk {H : Type} : DataW H → Nat
  | .lit (.string bytes) => bytes.length + 1
  | .lit _ => 1
  | .nil => 1
  | .ptr d => uptoBulk d + 1
  | .slice elems spare => uptoBulkAll elems + uptoBulkAll spare + 1
  | .agg parts => uptoBulkAll parts + 1
  | .iface _ d => uptoBulk d + 1
  | .map entries => uptoBulkEntries entries + 1
  | .held _ => 1
def uptoBulkAll {H : Type} : List (DataW H) → Nat
  | [] => 0
  | d :: r => uptoBulk d + uptoBulkAll r
def uptoBulkEntries {H : Type} : List (Lit × DataW H) → Nat
  | [] => 0
  | x :: r => uptoBulkEntry x + uptoBulkEntries r
def uptoBulkEntry {H : Type} : Lit × DataW H → Nat
  | (.string bytes, d) => bytes.length + uptoBulk d + 1
  | (_, d) => uptoBulk d + 1
 end
def uptoSmall : (H : Type) → List (DataW H) → Bool := fun _ ds => decide (uptoBulkAll ds ≤ 1048576)
def OpenSpec.upto (s : _root_.Go.ChangeSpec) : _root_.Go.OpenSpec := { _root_.Go.OpenSpec.ofChange s with cond := some uptoSmall }

/-- 'scantlinglaw13.GatePlays', WHERE WHAT IT READS IS OF BULK AT MOST 1048576: true; the input reads as it did. -/
def gatePlaysUptoRow : OpenClaim := { program := "ytdlnadlllgkleaa", sum := "fe2e034d14e955705f1dd8a04dc13ac008bc3e30db7b124101a290c0ff926c99", func := "scantling/scantlinglaw13.GatePlays", spec := "gatePlays", unfollowed := true, recurses := true, apart := false, narrowed := true }
def GatePlaysUptoSaid : Prop := gatePlaysUptoRow.holds Try.pinned (OpenSpec.upto gatePlaysSpec)

/-- 'scantlinglaw13.GateOnly', WHERE WHAT IT READS IS OF BULK AT MOST 1048576: true; the input reads as it did. -/
def gateOnlyUptoRow : OpenClaim := { program := "ytdlnadlllgkleaa", sum := "fe2e034d14e955705f1dd8a04dc13ac008bc3e30db7b124101a290c0ff926c99", func := "scantling/scantlinglaw13.GateOnly", spec := "gateOnly", apart := false, narrowed := true }
def GateOnlyUptoSaid : Prop := gateOnlyUptoRow.holds Try.pinned (OpenSpec.upto gateOnlySpec)

/-- 'scantlinglaw13.GateSets', WHERE WHAT IT READS IS OF BULK AT MOST 1048576: true; the input reads as it did. -/
def gateSetsUptoRow : OpenClaim := { program := "ytdlnadlllgkleaa", sum := "fe2e034d14e955705f1dd8a04dc13ac008bc3e30db7b124101a290c0ff926c99", func := "scantling/scantlinglaw13.GateSets", spec := "gateSets", apart := false, narrowed := true }
def GateSetsUptoSaid : Prop := gateSetsUptoRow.holds Try.pinned (OpenSpec.upto gateSetsSpec)

/-- 'scantlinglaw13.GateOpens', WHERE WHAT IT READS IS OF BULK AT MOST 1048576: true; the input reads as it did. -/
def gateOpensUptoRow : OpenClaim := { program := "ytdlnadlllgkleaa", sum := "fe2e034d14e955705f1dd8a04dc13ac008bc3e30db7b124101a290c0ff926c99", func := "scantling/scantlinglaw13.GateOpens", spec := "gateOpens", apart := false, narrowed := true }
def GateOpensUptoSaid : Prop := gateOpensUptoRow.holds Try.pinned (OpenSpec.upto gateOpensSpec)

end Rows
end Go.Proofs.Ytdlnadlllgkleaa
