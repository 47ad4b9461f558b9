/-
  NARROWER THAN 'FOR EVERY INPUT', by the rows' own cells (each row's printed sentence says how): QuotaKnown: laid · QuotaRolls: laid · QuotaTold: laid · QuotaPolicy: laid.
  DERIVED. THE GIVEN ROWS OF THIS SEAT. 4 by the template 'for every input the law returns true; each argument reads behind the call as it read before'; 0 by the template 'total and deterministic' (their statements: YtapiehddcdnadaaDoorTotals.lean).
  GIVEN WITH THE SEED: the statements are not yours to turn. If you find one false, say at which input.
  Laid BY PROGRAM, IN A SANDBOX (cutbox-rows.mjs): the forced cells as the released guide's own fill.sh prints them over the translation 44cf5fa039696474… (all of the seat's roots in one cut). By AI agents, Wed Nov 11 2026. No macro, syntax, notation, axiom, sorry.
-/
import Derived.Test.YtapiehddcdnadaaDoorChecked
import GoSem.Claim
import GoSem.ClaimJoined
import GoSem.ClaimMapViews
import Derived.JoinedTies
import Derived.KernelRfl
namespace Go.Proofs.YtapiehddcdnadaaDoor
/- THE CELL 'sum', in the pinned program and in every row, IS THE sha256 OF THE DUMP (.gsa) THAT YtapiehddcdnadaaDoorProg.lean LOADS. Nothing in Lean hashes anything: it is a label: what it is worth is what the hold of that sum in a sandbox is worth. -/
noncomputable def Tryd.pinned : Pinned := { name := "ytapiehddcdnadaadoor", sum := "44cf5fa03969647498e39d7b2b2451b46adad0ac507e00859ef219f67dee524c", checked := Tryd.checked }
namespace Rows
def none {H : Type} : Left H := { results := [], args := [] }

/- WHAT THE LISTED PACKAGE-LEVEL VARIABLES READ AS WHEN THE CALL BEGINS. Each datum BY PROGRAM (the guide's laid-datum.mjs) off the statement by which the dump's own 'gosem.cut.vars' lays the variable. In a bare row this is a premise. The card (YtapiehddcdnadaaDoorCards.lean) ties it to the program's text. -/
def laid_math_bits_deBruijn64tab {H : Type} : DataW H := .agg [.lit (.int .u8 0), .lit (.int .u8 1), .lit (.int .u8 56), .lit (.int .u8 2), .lit (.int .u8 57), .lit (.int .u8 49), .lit (.int .u8 28), .lit (.int .u8 3), .lit (.int .u8 61), .lit (.int .u8 58), .lit (.int .u8 42), .lit (.int .u8 50), .lit (.int .u8 38), .lit (.int .u8 29), .lit (.int .u8 17), .lit (.int .u8 4), .lit (.int .u8 62), .lit (.int .u8 47), .lit (.int .u8 59), .lit (.int .u8 36), .lit (.int .u8 45), .lit (.int .u8 43), .lit (.int .u8 51), .lit (.int .u8 22), .lit (.int .u8 53), .lit (.int .u8 39), .lit (.int .u8 33), .lit (.int .u8 30), .lit (.int .u8 24), .lit (.int .u8 18), .lit (.int .u8 12), .lit (.int .u8 5), .lit (.int .u8 63), .lit (.int .u8 55), .lit (.int .u8 48), .lit (.int .u8 27), .lit (.int .u8 60), .lit (.int .u8 41), .lit (.int .u8 37), .lit (.int .u8 16), .lit (.int .u8 46), .lit (.int .u8 35), .lit (.int .u8 44), .lit (.int .u8 21), .lit (.int .u8 52), .lit (.int .u8 32), .lit (.int .u8 23), .lit (.int .u8 11), .lit (.int .u8 54), .lit (.int .u8 26), .lit (.int .u8 40), .lit (.int .u8 15), .lit (.int .u8 34), .lit (.int .u8 20), .lit (.int .u8 31), .lit (.int .u8 10), .lit (.int .u8 25), .lit (.int .u8 14), .lit (.int .u8 19), .lit (.int .u8 9), .lit (.int .u8 13), .lit (.int .u8 8), .lit (.int .u8 7), .lit (.int .u8 6)]

/-- 'scantlinglaw14.QuotaKnown': WHATEVER THE INPUT: true; the input reads as it did. -/
def quotaKnownSpec : ChangeSpec := { name := "quotaKnown", fn := fun _ => fun
  | [d1, d2] => { results := [.lit (.bool true)], args := [d1, d2] }
  | _ => none }
def quotaKnownRow : OpenClaim := { program := "ytapiehddcdnadaadoor", sum := "44cf5fa03969647498e39d7b2b2451b46adad0ac507e00859ef219f67dee524c", func := "scantling/scantlinglaw14.QuotaKnown", spec := "quotaKnown", unfollowed := true, recurses := true, named := ["math/bits.deBruijn64tab"], apart := false, laid := [("math/bits.deBruijn64tab", laid_math_bits_deBruijn64tab)] }
def QuotaKnownSaid : Prop := quotaKnownRow.holds Tryd.pinned (OpenSpec.ofChange quotaKnownSpec)

/-- ITS FALSE NEIGHBOUR: 'it returns false'. Refute it at one input. -/
def quotaKnownWrong : ChangeSpec := { name := "quotaKnown", fn := fun _ => fun
  | [d1, d2] => { results := [.lit (.bool false)], args := [d1, d2] }
  | _ => none }
def QuotaKnownWrongFalsely : Prop := quotaKnownRow.holds Tryd.pinned (OpenSpec.ofChange quotaKnownWrong)

/-- 'scantlinglaw14.QuotaRolls': WHATEVER THE INPUT: true; the input reads as it did. -/
def quotaRollsSpec : ChangeSpec := { name := "quotaRolls", fn := fun _ => fun
  | [d1, d2, d3] => { results := [.lit (.bool true)], args := [d1, d2, d3] }
  | _ => none }
def quotaRollsRow : OpenClaim := { program := "ytapiehddcdnadaadoor", sum := "44cf5fa03969647498e39d7b2b2451b46adad0ac507e00859ef219f67dee524c", func := "scantling/scantlinglaw14.QuotaRolls", spec := "quotaRolls", unfollowed := true, recurses := true, named := ["math/bits.deBruijn64tab"], apart := false, laid := [("math/bits.deBruijn64tab", laid_math_bits_deBruijn64tab)] }
def QuotaRollsSaid : Prop := quotaRollsRow.holds Tryd.pinned (OpenSpec.ofChange quotaRollsSpec)

/-- ITS FALSE NEIGHBOUR: 'it returns false'. Refute it at one input. -/
def quotaRollsWrong : ChangeSpec := { name := "quotaRolls", fn := fun _ => fun
  | [d1, d2, d3] => { results := [.lit (.bool false)], args := [d1, d2, d3] }
  | _ => none }
def QuotaRollsWrongFalsely : Prop := quotaRollsRow.holds Tryd.pinned (OpenSpec.ofChange quotaRollsWrong)

/-- 'scantlinglaw14.QuotaTold': WHATEVER THE INPUT: true; the input reads as it did. -/
def quotaToldSpec : ChangeSpec := { name := "quotaTold", fn := fun _ => fun
  | [d1, d2] => { results := [.lit (.bool true)], args := [d1, d2] }
  | _ => none }
def quotaToldRow : OpenClaim := { program := "ytapiehddcdnadaadoor", sum := "44cf5fa03969647498e39d7b2b2451b46adad0ac507e00859ef219f67dee524c", func := "scantling/scantlinglaw14.QuotaTold", spec := "quotaTold", unfollowed := true, recurses := true, named := ["math/bits.deBruijn64tab"], apart := false, laid := [("math/bits.deBruijn64tab", laid_math_bits_deBruijn64tab)] }
def QuotaToldSaid : Prop := quotaToldRow.holds Tryd.pinned (OpenSpec.ofChange quotaToldSpec)

/-- ITS FALSE NEIGHBOUR: 'it returns false'. Refute it at one input. -/
def quotaToldWrong : ChangeSpec := { name := "quotaTold", fn := fun _ => fun
  | [d1, d2] => { results := [.lit (.bool false)], args := [d1, d2] }
  | _ => none }
def QuotaToldWrongFalsely : Prop := quotaToldRow.holds Tryd.pinned (OpenSpec.ofChange quotaToldWrong)

/-- 'scantlinglaw14.QuotaPolicy': WHATEVER THE INPUT: true; the input reads as it did. -/
def quotaPolicySpec : ChangeSpec := { name := "quotaPolicy", fn := fun _ => fun
  | [d1, d2, d3] => { results := [.lit (.bool true)], args := [d1, d2, d3] }
  | _ => none }
def quotaPolicyRow : OpenClaim := { program := "ytapiehddcdnadaadoor", sum := "44cf5fa03969647498e39d7b2b2451b46adad0ac507e00859ef219f67dee524c", func := "scantling/scantlinglaw14.QuotaPolicy", spec := "quotaPolicy", unfollowed := true, recurses := true, named := ["math/bits.deBruijn64tab"], apart := false, laid := [("math/bits.deBruijn64tab", laid_math_bits_deBruijn64tab)] }
def QuotaPolicySaid : Prop := quotaPolicyRow.holds Tryd.pinned (OpenSpec.ofChange quotaPolicySpec)

/-- ITS FALSE NEIGHBOUR: 'it returns false'. Refute it at one input. -/
def quotaPolicyWrong : ChangeSpec := { name := "quotaPolicy", fn := fun _ => fun
  | [d1, d2, d3] => { results := [.lit (.bool false)], args := [d1, d2, d3] }
  | _ => none }
def QuotaPolicyWrongFalsely : Prop := quotaPolicyRow.holds Tryd.pinned (OpenSpec.ofChange quotaPolicyWrong)

/- THE SECOND FORM. 'bulk': how many values and letters a reading holds, each counted each time it is reached (what is shared counts as often as it is met; a slice's spare places count too). A statement '..UptoSaid' is the law's where the arguments, and the package variables that the reading takes, are together of bulk at most 1048576: NARROWER than '..Said'. Prove '..Said' where nothing that the law and all that it calls make is longer than what came in: it says more and counts as full. Else prove '..UptoSaid'. A law counts once. -/
mutual
def uptoBulk {H : Type} : DataW H → Nat
  | .lit (.string bytes) => bytes.length + 1
  | .lit _ => 1
  | .nil => 1
  | .ptr d => uptoBulk d + 1
  | .slice elems spare => uptoBulkAll elems + uptoBulkAll spare + 1
  | .agg parts => uptoBulkAll parts + 1
  | .iface _ d => uptoBulk d + 1
  | .map entries => uptoBulkEntries entries + 1
  | .held _ => 1
def uptoBulkAll {H : Type} : List (DataW H) → Nat
  | [] => 0
  | d :: r => uptoBulk d + uptoBulkAll r
def uptoBulkEntries {H : Type} : List (Lit × DataW H) → Nat
  | [] => 0
  | x :: r => uptoBulkEntry x + uptoBulkEntries r
def uptoBulkEntry {H : Type} : Lit × DataW H → Nat
  | (.string bytes, d) => bytes.length + uptoBulk d + 1
  | (_, d) => uptoBulk d + 1
 end
def uptoSmall : (H : Type) → List (DataW H) → Bool := fun _ ds => decide (uptoBulkAll ds ≤ 1048576)
def OpenSpec.upto (s : _root_.Go.ChangeSpec) : _root_.Go.OpenSpec := { _root_.Go.OpenSpec.ofChange s with cond := some uptoSmall }

/-- 'scantlinglaw14.QuotaKnown', WHERE WHAT IT READS IS OF BULK AT MOST 1048576: true; the input reads as it did. -/
def quotaKnownUptoRow : OpenClaim := { program := "ytapiehddcdnadaadoor", sum := "44cf5fa03969647498e39d7b2b2451b46adad0ac507e00859ef219f67dee524c", func := "scantling/scantlinglaw14.QuotaKnown", spec := "quotaKnown", unfollowed := true, recurses := true, named := ["math/bits.deBruijn64tab"], apart := false, laid := [("math/bits.deBruijn64tab", laid_math_bits_deBruijn64tab)], narrowed := true }
def QuotaKnownUptoSaid : Prop := quotaKnownUptoRow.holds Tryd.pinned (OpenSpec.upto quotaKnownSpec)

/-- 'scantlinglaw14.QuotaRolls', WHERE WHAT IT READS IS OF BULK AT MOST 1048576: true; the input reads as it did. -/
def quotaRollsUptoRow : OpenClaim := { program := "ytapiehddcdnadaadoor", sum := "44cf5fa03969647498e39d7b2b2451b46adad0ac507e00859ef219f67dee524c", func := "scantling/scantlinglaw14.QuotaRolls", spec := "quotaRolls", unfollowed := true, recurses := true, named := ["math/bits.deBruijn64tab"], apart := false, laid := [("math/bits.deBruijn64tab", laid_math_bits_deBruijn64tab)], narrowed := true }
def QuotaRollsUptoSaid : Prop := quotaRollsUptoRow.holds Tryd.pinned (OpenSpec.upto quotaRollsSpec)

/-- 'scantlinglaw14.QuotaTold', WHERE WHAT IT READS IS OF BULK AT MOST 1048576: true; the input reads as it did. -/
def quotaToldUptoRow : OpenClaim := { program := "ytapiehddcdnadaadoor", sum := "44cf5fa03969647498e39d7b2b2451b46adad0ac507e00859ef219f67dee524c", func := "scantling/scantlinglaw14.QuotaTold", spec := "quotaTold", unfollowed := true, recurses := true, named := ["math/bits.deBruijn64tab"], apart := false, laid := [("math/bits.deBruijn64tab", laid_math_bits_deBruijn64tab)], narrowed := true }
def QuotaToldUptoSaid : Prop := quotaToldUptoRow.holds Tryd.pinned (OpenSpec.upto quotaToldSpec)

/-- 'scantlinglaw14.QuotaPolicy', WHERE WHAT IT READS IS OF BULK AT MOST 1048576: true; the input reads as it did. -/
def quotaPolicyUptoRow : OpenClaim := { program := "ytapiehddcdnadaadoor", sum := "44cf5fa03969647498e39d7b2b2451b46adad0ac507e00859ef219f67dee524c", func := "scantling/scantlinglaw14.QuotaPolicy", spec := "quotaPolicy", unfollowed := true, recurses := true, named := ["math/bits.deBruijn64tab"], apart := false, laid := [("math/bits.deBruijn64tab", laid_math_bits_deBruijn64tab)], narrowed := true }
def QuotaPolicyUptoSaid : Prop := quotaPolicyUptoRow.holds Tryd.pinned (OpenSpec.upto quotaPolicySpec)

end Rows
end Go.Proofs.YtapiehddcdnadaaDoor
