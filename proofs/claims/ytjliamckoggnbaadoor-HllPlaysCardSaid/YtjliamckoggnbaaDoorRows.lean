/-
  NARROWER THAN 'FOR EVERY INPUT', by the rows' own cells (each row's printed sentence says how): HllOf: laid · HllOrder: laid · HllRegisters: laid · HllWrong: laid · HllFew: laid · HllMerge: laid · HllPlays: laid.
  DERIVED. THE GIVEN ROWS OF THIS SEAT. 7 by the template 'for every input the law returns true; each argument reads behind the call as it read before'; 0 by the template 'total and deterministic' (their statements: YtjliamckoggnbaaDoorTotals.lean).
  GIVEN WITH THE SEED: the statements are not yours to turn. If you find one false, say at which input.
  Laid BY PROGRAM, IN A SANDBOX (cutbox-rows.mjs): the forced cells as the released guide's own fill.sh prints them over the translation eea79a57038b3c3c… (all of the seat's roots in one cut). By AI agents, Wed Nov 11 2026. No macro, syntax, notation, axiom, sorry.
-/
import Derived.Test.YtjliamckoggnbaaDoorChecked
import GoSem.Claim
import GoSem.ClaimJoined
import GoSem.ClaimMapViews
import Derived.JoinedTies
import Derived.KernelRfl
namespace Go.Proofs.YtjliamckoggnbaaDoor
/- THE CELL 'sum', in the pinned program and in every row, IS THE sha256 OF THE DUMP (.gsa) THAT YtjliamckoggnbaaDoorProg.lean LOADS. Nothing in Lean hashes anything: it is a label: what it is worth is what the hold of that sum in a sandbox is worth. -/
noncomputable def Tryd.pinned : Pinned := { name := "ytjliamckoggnbaadoor", sum := "eea79a57038b3c3ccff563cacda4f2317b770a8019031a50db8a64ce79e2ae7f", checked := Tryd.checked }
namespace Rows
def none {H : Type} : Left H := { results := [], args := [] }

/- WHAT THE LISTED PACKAGE-LEVEL VARIABLES READ AS WHEN THE CALL BEGINS. Each datum BY PROGRAM (the guide's laid-datum.mjs) off the statement by which the dump's own 'gosem.cut.vars' lays the variable. In a bare row this is a premise. The card (YtjliamckoggnbaaDoorCards.lean) ties it to the program's text. -/
def laid_math_bits_deBruijn64tab {H : Type} : DataW H := .agg [.lit (.int .u8 0), .lit (.int .u8 1), .lit (.int .u8 56), .lit (.int .u8 2), .lit (.int .u8 57), .lit (.int .u8 49), .lit (.int .u8 28), .lit (.int .u8 3), .lit (.int .u8 61), .lit (.int .u8 58), .lit (.int .u8 42), .lit (.int .u8 50), .lit (.int .u8 38), .lit (.int .u8 29), .lit (.int .u8 17), .lit (.int .u8 4), .lit (.int .u8 62), .lit (.int .u8 47), .lit (.int .u8 59), .lit (.int .u8 36), .lit (.int .u8 45), .lit (.int .u8 43), .lit (.int .u8 51), .lit (.int .u8 22), .lit (.int .u8 53), .lit (.int .u8 39), .lit (.int .u8 33), .lit (.int .u8 30), .lit (.int .u8 24), .lit (.int .u8 18), .lit (.int .u8 12), .lit (.int .u8 5), .lit (.int .u8 63), .lit (.int .u8 55), .lit (.int .u8 48), .lit (.int .u8 27), .lit (.int .u8 60), .lit (.int .u8 41), .lit (.int .u8 37), .lit (.int .u8 16), .lit (.int .u8 46), .lit (.int .u8 35), .lit (.int .u8 44), .lit (.int .u8 21), .lit (.int .u8 52), .lit (.int .u8 32), .lit (.int .u8 23), .lit (.int .u8 11), .lit (.int .u8 54), .lit (.int .u8 26), .lit (.int .u8 40), .lit (.int .u8 15), .lit (.int .u8 34), .lit (.int .u8 20), .lit (.int .u8 31), .lit (.int .u8 10), .lit (.int .u8 25), .lit (.int .u8 14), .lit (.int .u8 19), .lit (.int .u8 9), .lit (.int .u8 13), .lit (.int .u8 8), .lit (.int .u8 7), .lit (.int .u8 6)]

/-- 'scantlinglaw03.HllOf': WHATEVER THE INPUT: true; the input reads as it did. -/
def hllOfSpec : ChangeSpec := { name := "hllOf", fn := fun _ => fun
  | [d1, d2, d3, d4, d5] => { results := [.lit (.bool true)], args := [d1, d2, d3, d4, d5] }
  | _ => none }
def hllOfRow : OpenClaim := { program := "ytjliamckoggnbaadoor", sum := "eea79a57038b3c3ccff563cacda4f2317b770a8019031a50db8a64ce79e2ae7f", func := "scantling/scantlinglaw03.HllOf", spec := "hllOf", named := ["math/bits.deBruijn64tab"], apart := false, laid := [("math/bits.deBruijn64tab", laid_math_bits_deBruijn64tab)] }
def HllOfSaid : Prop := hllOfRow.holds Tryd.pinned (OpenSpec.ofChange hllOfSpec)

/-- ITS FALSE NEIGHBOUR: 'it returns false'. Refute it at one input. -/
def hllOfWrong : ChangeSpec := { name := "hllOf", fn := fun _ => fun
  | [d1, d2, d3, d4, d5] => { results := [.lit (.bool false)], args := [d1, d2, d3, d4, d5] }
  | _ => none }
def HllOfWrongFalsely : Prop := hllOfRow.holds Tryd.pinned (OpenSpec.ofChange hllOfWrong)

/-- 'scantlinglaw03.HllOrder': WHATEVER THE INPUT: true; the input reads as it did. -/
def hllOrderSpec : ChangeSpec := { name := "hllOrder", fn := fun _ => fun
  | [d1, d2, d3] => { results := [.lit (.bool true)], args := [d1, d2, d3] }
  | _ => none }
def hllOrderRow : OpenClaim := { program := "ytjliamckoggnbaadoor", sum := "eea79a57038b3c3ccff563cacda4f2317b770a8019031a50db8a64ce79e2ae7f", func := "scantling/scantlinglaw03.HllOrder", spec := "hllOrder", named := ["math/bits.deBruijn64tab"], apart := false, laid := [("math/bits.deBruijn64tab", laid_math_bits_deBruijn64tab)] }
def HllOrderSaid : Prop := hllOrderRow.holds Tryd.pinned (OpenSpec.ofChange hllOrderSpec)

/-- ITS FALSE NEIGHBOUR: 'it returns false'. Refute it at one input. -/
def hllOrderWrong : ChangeSpec := { name := "hllOrder", fn := fun _ => fun
  | [d1, d2, d3] => { results := [.lit (.bool false)], args := [d1, d2, d3] }
  | _ => none }
def HllOrderWrongFalsely : Prop := hllOrderRow.holds Tryd.pinned (OpenSpec.ofChange hllOrderWrong)

/-- 'scantlinglaw03.HllRegisters': WHATEVER THE INPUT: true; the input reads as it did. -/
def hllRegistersSpec : ChangeSpec := { name := "hllRegisters", fn := fun _ => fun
  | [d1, d2, d3] => { results := [.lit (.bool true)], args := [d1, d2, d3] }
  | _ => none }
def hllRegistersRow : OpenClaim := { program := "ytjliamckoggnbaadoor", sum := "eea79a57038b3c3ccff563cacda4f2317b770a8019031a50db8a64ce79e2ae7f", func := "scantling/scantlinglaw03.HllRegisters", spec := "hllRegisters", named := ["math/bits.deBruijn64tab"], apart := false, laid := [("math/bits.deBruijn64tab", laid_math_bits_deBruijn64tab)] }
def HllRegistersSaid : Prop := hllRegistersRow.holds Tryd.pinned (OpenSpec.ofChange hllRegistersSpec)

/-- ITS FALSE NEIGHBOUR: 'it returns false'. Refute it at one input. -/
def hllRegistersWrong : ChangeSpec := { name := "hllRegisters", fn := fun _ => fun
  | [d1, d2, d3] => { results := [.lit (.bool false)], args := [d1, d2, d3] }
  | _ => none }
def HllRegistersWrongFalsely : Prop := hllRegistersRow.holds Tryd.pinned (OpenSpec.ofChange hllRegistersWrong)

/-- 'scantlinglaw03.HllWrong': WHATEVER THE INPUT: true; the input reads as it did. -/
def hllWrongSpec : ChangeSpec := { name := "hllWrong", fn := fun _ => fun
  | [d1, d2, d3, d4] => { results := [.lit (.bool true)], args := [d1, d2, d3, d4] }
  | _ => none }
def hllWrongRow : OpenClaim := { program := "ytjliamckoggnbaadoor", sum := "eea79a57038b3c3ccff563cacda4f2317b770a8019031a50db8a64ce79e2ae7f", func := "scantling/scantlinglaw03.HllWrong", spec := "hllWrong", named := ["math/bits.deBruijn64tab"], apart := false, laid := [("math/bits.deBruijn64tab", laid_math_bits_deBruijn64tab)] }
def HllWrongSaid : Prop := hllWrongRow.holds Tryd.pinned (OpenSpec.ofChange hllWrongSpec)

/-- ITS FALSE NEIGHBOUR: 'it returns false'. Refute it at one input. -/
def hllWrongWrong : ChangeSpec := { name := "hllWrong", fn := fun _ => fun
  | [d1, d2, d3, d4] => { results := [.lit (.bool false)], args := [d1, d2, d3, d4] }
  | _ => none }
def HllWrongWrongFalsely : Prop := hllWrongRow.holds Tryd.pinned (OpenSpec.ofChange hllWrongWrong)

/-- 'scantlinglaw03.HllFew': WHATEVER THE INPUT: true; the input reads as it did. -/
def hllFewSpec : ChangeSpec := { name := "hllFew", fn := fun _ => fun
  | [d1, d2] => { results := [.lit (.bool true)], args := [d1, d2] }
  | _ => none }
def hllFewRow : OpenClaim := { program := "ytjliamckoggnbaadoor", sum := "eea79a57038b3c3ccff563cacda4f2317b770a8019031a50db8a64ce79e2ae7f", func := "scantling/scantlinglaw03.HllFew", spec := "hllFew", named := ["math/bits.deBruijn64tab"], apart := false, laid := [("math/bits.deBruijn64tab", laid_math_bits_deBruijn64tab)] }
def HllFewSaid : Prop := hllFewRow.holds Tryd.pinned (OpenSpec.ofChange hllFewSpec)

/-- ITS FALSE NEIGHBOUR: 'it returns false'. Refute it at one input. -/
def hllFewWrong : ChangeSpec := { name := "hllFew", fn := fun _ => fun
  | [d1, d2] => { results := [.lit (.bool false)], args := [d1, d2] }
  | _ => none }
def HllFewWrongFalsely : Prop := hllFewRow.holds Tryd.pinned (OpenSpec.ofChange hllFewWrong)

/-- 'scantlinglaw03.HllMerge': WHATEVER THE INPUT: true; the input reads as it did. -/
def hllMergeSpec : ChangeSpec := { name := "hllMerge", fn := fun _ => fun
  | [d1, d2, d3] => { results := [.lit (.bool true)], args := [d1, d2, d3] }
  | _ => none }
def hllMergeRow : OpenClaim := { program := "ytjliamckoggnbaadoor", sum := "eea79a57038b3c3ccff563cacda4f2317b770a8019031a50db8a64ce79e2ae7f", func := "scantling/scantlinglaw03.HllMerge", spec := "hllMerge", named := ["math/bits.deBruijn64tab"], apart := false, laid := [("math/bits.deBruijn64tab", laid_math_bits_deBruijn64tab)] }
def HllMergeSaid : Prop := hllMergeRow.holds Tryd.pinned (OpenSpec.ofChange hllMergeSpec)

/-- ITS FALSE NEIGHBOUR: 'it returns false'. Refute it at one input. -/
def hllMergeWrong : ChangeSpec := { name := "hllMerge", fn := fun _ => fun
  | [d1, d2, d3] => { results := [.lit (.bool false)], args := [d1, d2, d3] }
  | _ => none }
def HllMergeWrongFalsely : Prop := hllMergeRow.holds Tryd.pinned (OpenSpec.ofChange hllMergeWrong)

/-- 'scantlinglaw03.HllPlays': WHATEVER THE INPUT: true; the input reads as it did. -/
def hllPlaysSpec : ChangeSpec := { name := "hllPlays", fn := fun _ => fun
  | [d1, d2, d3] => { results := [.lit (.bool true)], args := [d1, d2, d3] }
  | _ => none }
def hllPlaysRow : OpenClaim := { program := "ytjliamckoggnbaadoor", sum := "eea79a57038b3c3ccff563cacda4f2317b770a8019031a50db8a64ce79e2ae7f", func := "scantling/scantlinglaw03.HllPlays", spec := "hllPlays", named := ["math/bits.deBruijn64tab"], apart := false, laid := [("math/bits.deBruijn64tab", laid_math_bits_deBruijn64tab)] }
def HllPlaysSaid : Prop := hllPlaysRow.holds Tryd.pinned (OpenSpec.ofChange hllPlaysSpec)

/-- ITS FALSE NEIGHBOUR: 'it returns false'. Refute it at one input. -/
def hllPlaysWrong : ChangeSpec := { name := "hllPlays", fn := fun _ => fun
  | [d1, d2, d3] => { results := [.lit (.bool false)], args := [d1, d2, d3] }
  | _ => none }
def HllPlaysWrongFalsely : Prop := hllPlaysRow.holds Tryd.pinned (OpenSpec.ofChange hllPlaysWrong)

/- THE SECOND FORM. 'bulk': how many values and letters a reading holds, each counted each time it is reached (what is shared counts as often as it is met; a slice's spare places count too). A statement '..UptoSaid' is the law's where the arguments, and the package variables that the reading takes, are together of bulk at most 1048576: NARROWER than '..Said'. Prove '..Said' where nothing that the law and all that it calls make is longer than what came in: it says more and counts as full. Else prove '..UptoSaid'. A law counts once. -/
mutual
def uptoBulk {H : Type} : DataW H → Nat
  | .lit (.string bytes) => bytes.length + 1
  | .lit _ => 1
  | .nil => 1
  | .ptr d => uptoBulk d + 1
  | .slice elems spare => uptoBulkAll elems + uptoBulkAll spare + 1
  | .agg parts => uptoBulkAll parts + 1
  | .iface _ d => uptoBulk d + 1
  | .map entries => uptoBulkEntries entries + 1
  | .held _ => 1
def uptoBulkAll {H : Type} : List (DataW H) → Nat
  | [] => 0
  | d :: r => uptoBulk d + uptoBulkAll r
def uptoBulkEntries {H : Type} : List (Lit × DataW H) → Nat
  | [] => 0
  | x :: r => uptoBulkEntry x + uptoBulkEntries r
def uptoBulkEntry {H : Type} : Lit × DataW H → Nat
  | (.string bytes, d) => bytes.length + uptoBulk d + 1
  | (_, d) => uptoBulk d + 1
 end
def uptoSmall : (H : Type) → List (DataW H) → Bool := fun _ ds => decide (uptoBulkAll ds ≤ 1048576)
def OpenSpec.upto (s : _root_.Go.ChangeSpec) : _root_.Go.OpenSpec := { _root_.Go.OpenSpec.ofChange s with cond := some uptoSmall }

/-- 'scantlinglaw03.HllOf', WHERE WHAT IT READS IS OF BULK AT MOST 1048576: true; the input reads as it did. -/
def hllOfUptoRow : OpenClaim := { program := "ytjliamckoggnbaadoor", sum := "eea79a57038b3c3ccff563cacda4f2317b770a8019031a50db8a64ce79e2ae7f", func := "scantling/scantlinglaw03.HllOf", spec := "hllOf", named := ["math/bits.deBruijn64tab"], apart := false, laid := [("math/bits.deBruijn64tab", laid_math_bits_deBruijn64tab)], narrowed := true }
def HllOfUptoSaid : Prop := hllOfUptoRow.holds Tryd.pinned (OpenSpec.upto hllOfSpec)

/-- 'scantlinglaw03.HllOrder', WHERE WHAT IT READS IS OF BULK AT MOST 1048576: true; the input reads as it did. -/
def hllOrderUptoRow : OpenClaim := { program := "ytjliamckoggnbaadoor", sum := "eea79a57038b3c3ccff563cacda4f2317b770a8019031a50db8a64ce79e2ae7f", func := "scantling/scantlinglaw03.HllOrder", spec := "hllOrder", named := ["math/bits.deBruijn64tab"], apart := false, laid := [("math/bits.deBruijn64tab", laid_math_bits_deBruijn64tab)], narrowed := true }
def HllOrderUptoSaid : Prop := hllOrderUptoRow.holds Tryd.pinned (OpenSpec.upto hllOrderSpec)

/-- 'scantlinglaw03.HllRegisters', WHERE WHAT IT READS IS OF BULK AT MOST 1048576: true; the input reads as it did. -/
def hllRegistersUptoRow : OpenClaim := { program := "ytjliamckoggnbaadoor", sum := "eea79a57038b3c3ccff563cacda4f2317b770a8019031a50db8a64ce79e2ae7f", func := "scantling/scantlinglaw03.HllRegisters", spec := "hllRegisters", named := ["math/bits.deBruijn64tab"], apart := false, laid := [("math/bits.deBruijn64tab", laid_math_bits_deBruijn64tab)], narrowed := true }
def HllRegistersUptoSaid : Prop := hllRegistersUptoRow.holds Tryd.pinned (OpenSpec.upto hllRegistersSpec)

/-- 'scantlinglaw03.HllWrong', WHERE WHAT IT READS IS OF BULK AT MOST 1048576: true; the input reads as it did. -/
def hllWrongUptoRow : OpenClaim := { program := "ytjliamckoggnbaadoor", sum := "eea79a57038b3c3ccff563cacda4f2317b770a8019031a50db8a64ce79e2ae7f", func := "scantling/scantlinglaw03.HllWrong", spec := "hllWrong", named := ["math/bits.deBruijn64tab"], apart := false, laid := [("math/bits.deBruijn64tab", laid_math_bits_deBruijn64tab)], narrowed := true }
def HllWrongUptoSaid : Prop := hllWrongUptoRow.holds Tryd.pinned (OpenSpec.upto hllWrongSpec)

/-- 'scantlinglaw03.HllFew', WHERE WHAT IT READS IS OF BULK AT MOST 1048576: true; the input reads as it did. -/
def hllFewUptoRow : OpenClaim := { program := "ytjliamckoggnbaadoor", sum := "eea79a57038b3c3ccff563cacda4f2317b770a8019031a50db8a64ce79e2ae7f", func := "scantling/scantlinglaw03.HllFew", spec := "hllFew", named := ["math/bits.deBruijn64tab"], apart := false, laid := [("math/bits.deBruijn64tab", laid_math_bits_deBruijn64tab)], narrowed := true }
def HllFewUptoSaid : Prop := hllFewUptoRow.holds Tryd.pinned (OpenSpec.upto hllFewSpec)

/-- 'scantlinglaw03.HllMerge', WHERE WHAT IT READS IS OF BULK AT MOST 1048576: true; the input reads as it did. -/
def hllMergeUptoRow : OpenClaim := { program := "ytjliamckoggnbaadoor", sum := "eea79a57038b3c3ccff563cacda4f2317b770a8019031a50db8a64ce79e2ae7f", func := "scantling/scantlinglaw03.HllMerge", spec := "hllMerge", named := ["math/bits.deBruijn64tab"], apart := false, laid := [("math/bits.deBruijn64tab", laid_math_bits_deBruijn64tab)], narrowed := true }
def HllMergeUptoSaid : Prop := hllMergeUptoRow.holds Tryd.pinned (OpenSpec.upto hllMergeSpec)

/-- 'scantlinglaw03.HllPlays', WHERE WHAT IT READS IS OF BULK AT MOST 1048576: true; the input reads as it did. -/
def hllPlaysUptoRow : OpenClaim := { program := "ytjliamckoggnbaadoor", sum := "eea79a57038b3c3ccff563cacda4f2317b770a8019031a50db8a64ce79e2ae7f", func := "scantling/scantlinglaw03.HllPlays", spec := "hllPlays", named := ["math/bits.deBruijn64tab"], apart := false, laid := [("math/bits.deBruijn64tab", laid_math_bits_deBruijn64tab)], narrowed := true }
def HllPlaysUptoSaid : Prop := hllPlaysUptoRow.holds Tryd.pinned (OpenSpec.upto hllPlaysSpec)

end Rows
end Go.Proofs.YtjliamckoggnbaaDoor
