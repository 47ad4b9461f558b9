/- Items that came in. -/
import Derived.Test.YtcbheekfdhklcaaFields
import Derived.Test.YtcbheekfdhklcaaTopT1
namespace Go.Proofs.Ytcbheekfdhklcaa
open Go.RowKit Go.ChangeShapes Go.WideShapes Go.ChangeAt Go.Deep
set_option linter.unusedVariables false
set_option linter.unusedSimpArgs false

theorem sl_sized {H : Type} {enc : TypeId × Value → H} {P : Program} {W : World} {base : Nat} {held : Bool} {t e : TypeId} {a : Option Addr} {len cap : Nat} {d : DataW H} {ps : List MemPlace} {ts : List TypeId} {ds : List (DataW H)} {j : Nat}
    (hsz : (DataW.weightsEach P ts ds).all (· ≤ reachBytes) = true) (ht : ts[j]? = some t) (hd : ds[j]? = some d) (hu : P.underlying t = some (.slice e)) {B : Nat} (hB : P.bytesOf e = B)
    (h : DataW.Trod enc P W base (fun _ => true) held t (.slice a len cap) d ps) : len * B ≤ 140737488351232 := by
  obtain ⟨fuel, hf⟩ := h
  rcases open_slice hu hf with ⟨hcs, _⟩ | ⟨x, l, c, m, k, D, Pl, hcs, _, hl, _, _, hx, _⟩
  · simp [Value.cells] at hcs
    obtain ⟨rfl, rfl, rfl⟩ := hcs
    simp
  · simp [Value.cells] at hcs
    obtain ⟨rfl, rfl, rfl⟩ := hcs
    obtain ⟨hx, _⟩ := Prod.mk.inj hx
    subst hx
    have z := sized_slice hsz ht hd hu
    rw [hB] at z
    simp only [List.length_map, List.length_range, reachBytes] at z
    have h1 : len * B ≤ (len + (m - len)) * B := Nat.mul_le_mul_right _ (by omega)
    omega

/-- n items lie at a. -/
def ItemsT (W : World) (a : Option Addr) (n c : Nat) : Prop := ∃ l, ItRow W a n l ∧ n ≤ c ∧ n ≤ 4398046511103 ∧ Bd l
theorem items_choice {p : Nat → It → Prop} : ∀ (n : Nat), (∀ i, i < n → ∃ x, p i x) → ∃ l : List It, l.length = n ∧ ∀ i, i < n → p i (l.getD i default)
  | 0, _ => ⟨[], rfl, fun i h => by omega⟩
  | n + 1, h => by
    obtain ⟨l, hl, hp⟩ := items_choice n (fun i hi => h i (by omega))
    obtain ⟨x, hx⟩ := h n (by omega)
    refine ⟨l ++ [x], by simp [hl], fun i hi => ?_⟩
    rcases Nat.lt_or_ge i n with h1 | h1
    · have h2 := hp i h1
      rw [List.getD_eq_getElem?_getD, List.getElem?_append_left (by omega), ← List.getD_eq_getElem?_getD]
      exact h2
    · have e : i = n := by omega
      subst e
      rw [List.getD_eq_getElem?_getD, List.getElem?_append_right (by omega), hl]
      simpa using hx
theorem items_open {H : Type} {enc : TypeId × Value → H} {W : World} {base : Nat} {held : Bool} {a : Option Addr} {n c : Nat} {d : DataW H} {ps : List MemPlace} (hn : n * 32 ≤ 140737488351232)
    (h : DataW.Trod enc Try.prog W base (fun _ => true) held 31 (.slice a n c) d ps) : ItemsT W a n c := by
  obtain ⟨h1, h2, h3⟩ := fields_open Try.underlying31 Try.underlying35 (by kernel_rfl) (by kernel_rfl) (by decide) h
  have hm : maxLen = 9223372036854775807 := by decide
  rcases Nat.eq_zero_or_pos n with h0 | h0
  · subst h0
    exact ⟨[], ⟨rfl, fun h => absurd h (by omega)⟩, by omega, by omega, fun x hx => by cases hx⟩
  · obtain ⟨b, off, ha, hlt, hi⟩ := h3 h0
    have key : ∀ i, i < n → ∃ x : It, (W.cell? ⟨b, off + i * 3, none⟩ = some (.string x.name) ∧ W.cell? ⟨b, off + i * 3 + 1, none⟩ = some (.int .u64 x.many) ∧ W.cell? ⟨b, off + i * 3 + 2, none⟩ = some (.int .u64 x.over)) ∧ x.many < 18446744073709551616 ∧ x.over < 18446744073709551616 ∧ x.name.size ≤ 9223372036854775807 := fun i hin => by
      obtain ⟨u0, k0, z0, c0, t0⟩ := hi i hin 0 _ rfl
      obtain ⟨u1, k1, z1, c1, t1⟩ := hi i hin 1 _ rfl
      obtain ⟨u2, k2, z2, c2, t2⟩ := hi i hin 2 _ rfl
      obtain ⟨s0, e0, _, w0⟩ := DataW.trod_string Try.underlying9 t0
      obtain ⟨n1, e1, _, w1⟩ := DataW.trod_int Try.underlying28 t1
      obtain ⟨n2, e2, _, w2⟩ := DataW.trod_int Try.underlying28 t2
      obtain rfl : u0 = .string s0 := by simpa using e0
      obtain rfl : u1 = .int .u64 n1 := by simpa using e1
      obtain rfl : u2 = .int .u64 n2 := by simpa using e2
      have b1 := bounds_u64 w1
      have b2 := bounds_u64 w2
      refine ⟨⟨s0, n1.toNat, n2.toNat⟩, ⟨by simpa using c0, ?_, ?_⟩, by show n1.toNat < _; omega, by show n2.toNat < _; omega, by show s0.size ≤ _; omega⟩
      · show _ = some (Value.int .u64 (n1.toNat : Int))
        rw [Int.toNat_of_nonneg b1.1]; simpa [Nat.add_assoc] using c1
      · show _ = some (Value.int .u64 (n2.toNat : Int))
        rw [Int.toNat_of_nonneg b2.1]; simpa [Nat.add_assoc] using c2
    obtain ⟨l, hl, hp⟩ := items_choice n key
    refine ⟨l, ⟨hl, fun _ => ⟨b, off, ha, hlt, fun i hin => (hp i hin).1⟩⟩, h1, by omega, fun x hx => ?_⟩
    obtain ⟨i, hi', rfl⟩ := List.mem_iff_getElem.1 hx
    have := (hp i (by omega)).2
    rwa [it_get l i hi'] at this
end Go.Proofs.Ytcbheekfdhklcaa
