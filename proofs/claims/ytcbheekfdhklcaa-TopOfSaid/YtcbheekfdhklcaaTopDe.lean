/- Deeds that came in. -/
import Derived.Test.YtcbheekfdhklcaaFields
import Derived.Test.YtcbheekfdhklcaaTopA
namespace Go.Proofs.Ytcbheekfdhklcaa
open Go.RowKit Go.ChangeShapes Go.WideShapes Go.ChangeAt Go.Deep
set_option linter.unusedVariables false
set_option linter.unusedSimpArgs false

/-- n deeds lie at a. -/
structure DeedsT (W : World) (a : Option Addr) (n : Nat) : Prop where
  le : n ≤ 9223372036854775807
  at_ : 0 < n → ∃ b off, a = some ⟨b, off, none⟩ ∧ b < W.heap.size ∧ ∀ i, i < n → ∃ (k by_ : Nat) (s : ByteArray), W.cell? ⟨b, off + i * 3, none⟩ = some (.int .u8 k) ∧ W.cell? ⟨b, off + i * 3 + 1, none⟩ = some (.string s) ∧ W.cell? ⟨b, off + i * 3 + 2, none⟩ = some (.int .u64 by_) ∧ k ≤ 255 ∧ by_ < 18446744073709551616
theorem deeds_open {H : Type} {enc : TypeId × Value → H} {W : World} {base : Nat} {held : Bool} {a : Option Addr} {n c : Nat} {d : DataW H} {ps : List MemPlace}
    (h : DataW.Trod enc Try.prog W base (fun _ => true) held 40 (.slice a n c) d ps) : DeedsT W a n := by
  obtain ⟨h1, h2, h3⟩ := fields_open Try.underlying40 Try.underlying46 (by kernel_rfl) (by kernel_rfl) (by decide) h
  have hm : maxLen = 9223372036854775807 := by decide
  refine ⟨by omega, fun hn => ?_⟩
  obtain ⟨b, off, ha, hlt, hi⟩ := h3 hn
  refine ⟨b, off, ha, hlt, fun i hin => ?_⟩
  obtain ⟨u0, k0, z0, c0, t0⟩ := hi i hin 0 _ rfl
  obtain ⟨u1, k1, z1, c1, t1⟩ := hi i hin 1 _ rfl
  obtain ⟨u2, k2, z2, c2, t2⟩ := hi i hin 2 _ rfl
  obtain ⟨n0, e0, _, w0⟩ := DataW.trod_int Try.underlying5 t0
  obtain ⟨n2, e2, _, w2⟩ := DataW.trod_int Try.underlying28 t2
  obtain ⟨s1, e1, _⟩ := DataW.trod_string Try.underlying9 t1
  obtain rfl : u0 = .int .u8 n0 := by simpa using e0
  obtain rfl : u2 = .int .u64 n2 := by simpa using e2
  obtain rfl : u1 = .string s1 := by simpa using e1
  have b0 := bounds_u8 w0
  have b2 := bounds_u64 w2
  refine ⟨n0.toNat, n2.toNat, s1, ?_, by simpa [Nat.add_assoc] using c1, ?_, by omega, by omega⟩
  · rw [Int.toNat_of_nonneg b0.1]; simpa using c0
  · rw [Int.toNat_of_nonneg b2.1]; simpa [Nat.add_assoc] using c2
end Go.Proofs.Ytcbheekfdhklcaa
