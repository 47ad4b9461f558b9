/-
  No cell of these rows narrows 'for every input' (looked for: loops, veiled, ifaces, maps, wideKeys, modest, calm, conditions, laid).
  DERIVED. THE GIVEN ROWS OF THIS SEAT. 6 by the template 'for every input the law returns true; each argument reads behind the call as it read before'; 0 by the template 'total and deterministic' (their statements: YtcbheekfdhklcaaTotals.lean).
  GIVEN WITH THE SEED: the statements are not yours to turn. If you find one false, say at which input.
  Laid BY PROGRAM, IN A SANDBOX (cutbox-rows.mjs): the forced cells as the released guide's own fill.sh prints them over the translation e92fd35cb2920deb… (all of the seat's roots in one cut). By AI agents, Wed Nov 11 2026. No macro, syntax, notation, axiom, sorry.
-/
import Derived.Test.YtcbheekfdhklcaaChecked
import GoSem.Claim
import GoSem.ClaimJoined
import GoSem.ClaimMapViews
import Derived.JoinedTies
import Derived.KernelRfl
namespace Go.Proofs.Ytcbheekfdhklcaa
/- THE CELL 'sum', in the pinned program and in every row, IS THE sha256 OF THE DUMP (.gsa) THAT YtcbheekfdhklcaaProg.lean LOADS. Nothing in Lean hashes anything: it is a label: what it is worth is what the hold of that sum in a sandbox is worth. -/
noncomputable def Try.pinned : Pinned := { name := "ytcbheekfdhklcaa", sum := "e92fd35cb2920deb54fffbf702b3e78bbc95130a4fd2129641caa724518d99d6", checked := Try.checked }
namespace Rows
def none {H : Type} : Left H := { results := [], args := [] }

/-- 'scantlinglaw04.TopHolds': WHATEVER THE INPUT: true; the input reads as it did. -/
def topHoldsSpec : ChangeSpec := { name := "topHolds", fn := fun _ => fun
  | [d1, d2] => { results := [.lit (.bool true)], args := [d1, d2] }
  | _ => none }
def topHoldsRow : OpenClaim := { program := "ytcbheekfdhklcaa", sum := "e92fd35cb2920deb54fffbf702b3e78bbc95130a4fd2129641caa724518d99d6", func := "scantling/scantlinglaw04.TopHolds", spec := "topHolds", unfollowed := true, recurses := true, apart := false }
def TopHoldsSaid : Prop := topHoldsRow.holds Try.pinned (OpenSpec.ofChange topHoldsSpec)

/-- ITS FALSE NEIGHBOUR: 'it returns false'. Refute it at one input. -/
def topHoldsWrong : ChangeSpec := { name := "topHolds", fn := fun _ => fun
  | [d1, d2] => { results := [.lit (.bool false)], args := [d1, d2] }
  | _ => none }
def TopHoldsWrongFalsely : Prop := topHoldsRow.holds Try.pinned (OpenSpec.ofChange topHoldsWrong)

/-- 'scantlinglaw04.TopFew': WHATEVER THE INPUT: true; the input reads as it did. -/
def topFewSpec : ChangeSpec := { name := "topFew", fn := fun _ => fun
  | [d1, d2] => { results := [.lit (.bool true)], args := [d1, d2] }
  | _ => none }
def topFewRow : OpenClaim := { program := "ytcbheekfdhklcaa", sum := "e92fd35cb2920deb54fffbf702b3e78bbc95130a4fd2129641caa724518d99d6", func := "scantling/scantlinglaw04.TopFew", spec := "topFew", unfollowed := true, recurses := true, apart := false }
def TopFewSaid : Prop := topFewRow.holds Try.pinned (OpenSpec.ofChange topFewSpec)

/-- ITS FALSE NEIGHBOUR: 'it returns false'. Refute it at one input. -/
def topFewWrong : ChangeSpec := { name := "topFew", fn := fun _ => fun
  | [d1, d2] => { results := [.lit (.bool false)], args := [d1, d2] }
  | _ => none }
def TopFewWrongFalsely : Prop := topFewRow.holds Try.pinned (OpenSpec.ofChange topFewWrong)

/-- 'scantlinglaw04.TopLimits': WHATEVER THE INPUT: true; the input reads as it did. -/
def topLimitsSpec : ChangeSpec := { name := "topLimits", fn := fun _ => fun
  | [d1, d2, d3] => { results := [.lit (.bool true)], args := [d1, d2, d3] }
  | _ => none }
def topLimitsRow : OpenClaim := { program := "ytcbheekfdhklcaa", sum := "e92fd35cb2920deb54fffbf702b3e78bbc95130a4fd2129641caa724518d99d6", func := "scantling/scantlinglaw04.TopLimits", spec := "topLimits", unfollowed := true, recurses := true, apart := false }
def TopLimitsSaid : Prop := topLimitsRow.holds Try.pinned (OpenSpec.ofChange topLimitsSpec)

/-- ITS FALSE NEIGHBOUR: 'it returns false'. Refute it at one input. -/
def topLimitsWrong : ChangeSpec := { name := "topLimits", fn := fun _ => fun
  | [d1, d2, d3] => { results := [.lit (.bool false)], args := [d1, d2, d3] }
  | _ => none }
def TopLimitsWrongFalsely : Prop := topLimitsRow.holds Try.pinned (OpenSpec.ofChange topLimitsWrong)

/-- 'scantlinglaw04.TopOf': WHATEVER THE INPUT: true; the input reads as it did. -/
def topOfSpec : ChangeSpec := { name := "topOf", fn := fun _ => fun
  | [d1, d2, d3, d4, d5, d6, d7] => { results := [.lit (.bool true)], args := [d1, d2, d3, d4, d5, d6, d7] }
  | _ => none }
def topOfRow : OpenClaim := { program := "ytcbheekfdhklcaa", sum := "e92fd35cb2920deb54fffbf702b3e78bbc95130a4fd2129641caa724518d99d6", func := "scantling/scantlinglaw04.TopOf", spec := "topOf", unfollowed := true, recurses := true, apart := false }
def TopOfSaid : Prop := topOfRow.holds Try.pinned (OpenSpec.ofChange topOfSpec)

/-- ITS FALSE NEIGHBOUR: 'it returns false'. Refute it at one input. -/
def topOfWrong : ChangeSpec := { name := "topOf", fn := fun _ => fun
  | [d1, d2, d3, d4, d5, d6, d7] => { results := [.lit (.bool false)], args := [d1, d2, d3, d4, d5, d6, d7] }
  | _ => none }
def TopOfWrongFalsely : Prop := topOfRow.holds Try.pinned (OpenSpec.ofChange topOfWrong)

/-- 'scantlinglaw04.TopBack': WHATEVER THE INPUT: true; the input reads as it did. -/
def topBackSpec : ChangeSpec := { name := "topBack", fn := fun _ => fun
  | [d1, d2, d3] => { results := [.lit (.bool true)], args := [d1, d2, d3] }
  | _ => none }
def topBackRow : OpenClaim := { program := "ytcbheekfdhklcaa", sum := "e92fd35cb2920deb54fffbf702b3e78bbc95130a4fd2129641caa724518d99d6", func := "scantling/scantlinglaw04.TopBack", spec := "topBack", unfollowed := true, recurses := true, apart := false }
def TopBackSaid : Prop := topBackRow.holds Try.pinned (OpenSpec.ofChange topBackSpec)

/-- ITS FALSE NEIGHBOUR: 'it returns false'. Refute it at one input. -/
def topBackWrong : ChangeSpec := { name := "topBack", fn := fun _ => fun
  | [d1, d2, d3] => { results := [.lit (.bool false)], args := [d1, d2, d3] }
  | _ => none }
def TopBackWrongFalsely : Prop := topBackRow.holds Try.pinned (OpenSpec.ofChange topBackWrong)

/-- 'scantlinglaw04.TopPlays': WHATEVER THE INPUT: true; the input reads as it did. -/
def topPlaysSpec : ChangeSpec := { name := "topPlays", fn := fun _ => fun
  | [d1, d2, d3, d4] => { results := [.lit (.bool true)], args := [d1, d2, d3, d4] }
  | _ => none }
def topPlaysRow : OpenClaim := { program := "ytcbheekfdhklcaa", sum := "e92fd35cb2920deb54fffbf702b3e78bbc95130a4fd2129641caa724518d99d6", func := "scantling/scantlinglaw04.TopPlays", spec := "topPlays", unfollowed := true, recurses := true, apart := false }
def TopPlaysSaid : Prop := topPlaysRow.holds Try.pinned (OpenSpec.ofChange topPlaysSpec)

/-- ITS FALSE NEIGHBOUR: 'it returns false'. Refute it at one input. -/
def topPlaysWrong : ChangeSpec := { name := "topPlays", fn := fun _ => fun
  | [d1, d2, d3, d4] => { results := [.lit (.bool false)], args := [d1, d2, d3, d4] }
  | _ => none }
def TopPlaysWrongFalsely : Prop := topPlaysRow.holds Try.pinned (OpenSpec.ofChange topPlaysWrong)

/- THE SECOND FORM. 'bulk': how many values and letters a reading holds, each counted each time it is reached (what is shared counts as often as it is met; a slice's spare places count too). A statement '..UptoSaid' is the law's where the arguments, and the package variables that the reading takes, are together of bulk at most 1048576: NARROWER than '..Said'. Prove '..Said' where nothing that the law and all that it calls make is longer than what came in: it says more and counts as full. Else prove '..UptoSaid'. A law counts once. -/
mutual
def uptoBulk {H : Type} : DataW H → Nat
  | .lit (.string bytes) => bytes.length + 1
  | .lit _ => 1
  | .nil => 1
  | .ptr d => uptoBulk d + 1
  | .slice elems spare => uptoBulkAll elems + uptoBulkAll spare + 1
  | .agg parts => uptoBulkAll parts + 1
  | .iface _ d => uptoBulk d + 1
  | .map entries => uptoBulkEntries entries + 1
  | .held _ => 1
def uptoBulkAll {H : Type} : List (DataW H) → Nat
  | [] => 0
  | d :: r => uptoBulk d + uptoBulkAll r
def uptoBulkEntries {H : Type} : List (Lit × DataW H) → Nat
  | [] => 0
  | x :: r => uptoBulkEntry x + uptoBulkEntries r
def uptoBulkEntry {H : Type} : Lit × DataW H → Nat
  | (.string bytes, d) => bytes.length + uptoBulk d + 1
  | (_, d) => uptoBulk d + 1
 end
def uptoSmall : (H : Type) → List (DataW H) → Bool := fun _ ds => decide (uptoBulkAll ds ≤ 1048576)
def OpenSpec.upto (s : _root_.Go.ChangeSpec) : _root_.Go.OpenSpec := { _root_.Go.OpenSpec.ofChange s with cond := some uptoSmall }

/-- 'scantlinglaw04.TopHolds', WHERE WHAT IT READS IS OF BULK AT MOST 1048576: true; the input reads as it did. -/
def topHoldsUptoRow : OpenClaim := { program := "ytcbheekfdhklcaa", sum := "e92fd35cb2920deb54fffbf702b3e78bbc95130a4fd2129641caa724518d99d6", func := "scantling/scantlinglaw04.TopHolds", spec := "topHolds", unfollowed := true, recurses := true, apart := false, narrowed := true }
def TopHoldsUptoSaid : Prop := topHoldsUptoRow.holds Try.pinned (OpenSpec.upto topHoldsSpec)

/-- 'scantlinglaw04.TopFew', WHERE WHAT IT READS IS OF BULK AT MOST 1048576: true; the input reads as it did. -/
def topFewUptoRow : OpenClaim := { program := "ytcbheekfdhklcaa", sum := "e92fd35cb2920deb54fffbf702b3e78bbc95130a4fd2129641caa724518d99d6", func := "scantling/scantlinglaw04.TopFew", spec := "topFew", unfollowed := true, recurses := true, apart := false, narrowed := true }
def TopFewUptoSaid : Prop := topFewUptoRow.holds Try.pinned (OpenSpec.upto topFewSpec)

/-- 'scantlinglaw04.TopLimits', WHERE WHAT IT READS IS OF BULK AT MOST 1048576: true; the input reads as it did. -/
def topLimitsUptoRow : OpenClaim := { program := "ytcbheekfdhklcaa", sum := "e92fd35cb2920deb54fffbf702b3e78bbc95130a4fd2129641caa724518d99d6", func := "scantling/scantlinglaw04.TopLimits", spec := "topLimits", unfollowed := true, recurses := true, apart := false, narrowed := true }
def TopLimitsUptoSaid : Prop := topLimitsUptoRow.holds Try.pinned (OpenSpec.upto topLimitsSpec)

/-- 'scantlinglaw04.TopOf', WHERE WHAT IT READS IS OF BULK AT MOST 1048576: true; the input reads as it did. -/
def topOfUptoRow : OpenClaim := { program := "ytcbheekfdhklcaa", sum := "e92fd35cb2920deb54fffbf702b3e78bbc95130a4fd2129641caa724518d99d6", func := "scantling/scantlinglaw04.TopOf", spec := "topOf", unfollowed := true, recurses := true, apart := false, narrowed := true }
def TopOfUptoSaid : Prop := topOfUptoRow.holds Try.pinned (OpenSpec.upto topOfSpec)

/-- 'scantlinglaw04.TopBack', WHERE WHAT IT READS IS OF BULK AT MOST 1048576: true; the input reads as it did. -/
def topBackUptoRow : OpenClaim := { program := "ytcbheekfdhklcaa", sum := "e92fd35cb2920deb54fffbf702b3e78bbc95130a4fd2129641caa724518d99d6", func := "scantling/scantlinglaw04.TopBack", spec := "topBack", unfollowed := true, recurses := true, apart := false, narrowed := true }
def TopBackUptoSaid : Prop := topBackUptoRow.holds Try.pinned (OpenSpec.upto topBackSpec)

/-- 'scantlinglaw04.TopPlays', WHERE WHAT IT READS IS OF BULK AT MOST 1048576: true; the input reads as it did. -/
def topPlaysUptoRow : OpenClaim := { program := "ytcbheekfdhklcaa", sum := "e92fd35cb2920deb54fffbf702b3e78bbc95130a4fd2129641caa724518d99d6", func := "scantling/scantlinglaw04.TopPlays", spec := "topPlays", unfollowed := true, recurses := true, apart := false, narrowed := true }
def TopPlaysUptoSaid : Prop := topPlaysUptoRow.holds Try.pinned (OpenSpec.upto topPlaysSpec)

end Rows
end Go.Proofs.Ytcbheekfdhklcaa
