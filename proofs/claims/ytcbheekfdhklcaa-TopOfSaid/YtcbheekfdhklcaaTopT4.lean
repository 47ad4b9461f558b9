/- TopOf: the row. -/
import Derived.Test.YtcbheekfdhklcaaTopT3
import Derived.Test.YtcbheekfdhklcaaTopIt
namespace Go.Proofs.Ytcbheekfdhklcaa
open Go.RowKit
set_option linter.unusedVariables false
set_option linter.unusedSimpArgs false

theorem topOf_row (room : Int) (seen : Int) (A : Option Addr) (n c : Nat) (a : Option Addr) (m d : Nat) (own : Bool) (how : Int) (at_ : Int) (w : World) (hroom : (Lit.int .i64 room).wf = true) (hseen : (Lit.int .u64 seen).wf = true) (hi : ItemsT w A n c) (hx : DeedsT w a m) (hhow : (Lit.int .u8 how).wf = true) (hat : (Lit.int .i64 at_).wf = true) :
    Calls Try.prog 6 #[.int .i64 room, .int .u64 seen, .slice A n c, .slice a m d, .bool own, .int .u8 how, .int .i64 at_] w fun e w' => e = .returned (.bool true) ∧ Below w.heap.size w w' := by
  have h1 := bounds_u8 hhow
  have h2 := bounds_u64 hseen
  obtain ⟨q, rfl⟩ := Int.eq_ofNat_of_zero_le h1.1
  obtain ⟨s, rfl⟩ := Int.eq_ofNat_of_zero_le h2.1
  obtain ⟨l, R, hnc, hn, hbd⟩ := hi
  cases own with
  | false => exact topOf_no room s A n c l a m d q at_ w (by omega) R hnc hn hbd hx (by omega)
  | true =>
    by_cases hm : m ≤ 30
    · exact topOf_few room s A n c l a m d q at_ w (by omega) R hnc hn hbd hx (by omega) hm
    · exact topOf_more room s A n c l a m d q at_ w (by omega) R hnc hn hbd hx (by omega) (by omega)
end Go.Proofs.Ytcbheekfdhklcaa
