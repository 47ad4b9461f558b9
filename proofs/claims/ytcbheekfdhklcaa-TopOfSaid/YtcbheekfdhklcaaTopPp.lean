/- TopPlays: the plain law. -/
import Derived.Test.YtcbheekfdhklcaaTopPL
namespace Go.Proofs.Ytcbheekfdhklcaa
open Go.RowKit
set_option linter.unusedVariables false
set_option linter.unusedSimpArgs false

theorem BackInv.step {k s : Nat} {L : List It} (B : BackInv k s L) (h0 : 0 < k) (nm : ByteArray) (n : Nat) : BackInv k (stepS s nm n) (stepT k s L nm n) := by
  unfold stepS stepT
  by_cases he : addE s nm n = 0
  · rw [if_pos he, if_pos he]
    obtain ⟨h1, h2, h3⟩ := addE_zero he
    exact B.add h0 nm h1 n (by omega)
  · rw [if_neg he, if_neg he]
    exact B
theorem BackInv.right {k s : Nat} {L t : List It} (B : BackInv k s L) (hs : s ≤ 4611686018427387904) (hT : Told L t) : RightP k s t := by
  obtain ⟨real, O⟩ := B.off
  exact right_of_told O hs B.st B.sz hT
end Go.Proofs.Ytcbheekfdhklcaa
