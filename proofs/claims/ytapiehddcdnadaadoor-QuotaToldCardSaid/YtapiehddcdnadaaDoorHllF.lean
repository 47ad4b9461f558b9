/- Of: any text of bytes is the sketch that has them, or none: a text of 16 to 1024 bytes, as many as a power of two, none above 26. -/
import Derived.Test.YtapiehddcdnadaaDoorHllE
import Derived.Test.YtapiehddcdnadaaDoorShelf
import Derived.Lib.ConvBytes
namespace Go.Proofs.YtapiehddcdnadaaDoor
open Go.RowKit
set_option linter.unusedVariables false
set_option linter.unusedSimpArgs false

/-- A text's bytes as numbers. -/
def bI (s : ByteArray) : List Int := s.data.toList.map fun c => (c.toNat : Int)
theorem bI_len (s : ByteArray) : (bI s).length = s.size := by rw [bI, List.length_map, Array.length_toList]; rfl
theorem bI_get (s : ByteArray) (k : Nat) (hk : k < s.size) : (bI s).getD k 0 = ((s.data.toList.getD k 0).toNat : Int) := by
  have h : k < s.data.toList.length := by rw [Array.length_toList]; exact hk
  simp [bI, List.getD_eq_getElem?_getD, List.getElem?_eq_getElem h]
theorem bI_bd (s : ByteArray) (k : Nat) : 0 ≤ (bI s).getD k 0 ∧ (bI s).getD k 0 ≤ 255 := by
  rw [List.getD_eq_getElem?_getD]
  rcases Nat.lt_or_ge k (bI s).length with hk | hk
  · rw [List.getElem?_eq_getElem hk]
    simp only [bI, List.getElem_map, Option.getD_some]
    have := (s.data.toList[k]'(by simpa [bI] using hk)).toNat_lt
    omega
  · rw [List.getElem?_eq_none hk]
    simp

/-- Is a text a sketch's? -/
def OkS (s : ByteArray) : Prop := (∃ b, 4 ≤ b ∧ b ≤ 10 ∧ s.size = 2 ^ b) ∧ ∀ x ∈ bI s, x ≤ 26
def OfPost (s : ByteArray) (w : World) (e : Ending) (w' : World) : Prop :=
  Below w.heap.size w w' ∧
    ((OkS s ∧ ∃ g b, e = .returned (.tuple #[.pointer (some ⟨g, 0, none⟩), .int .i64 0]) ∧ w.heap.size ≤ g ∧ Sk w' g b (bI s)) ∨
     (¬ OkS s ∧ e = .returned (.tuple #[.pointer none, .int .i64 2])))

theorem bitLen_pow (b : Nat) (h : b = 4 ∨ b = 5 ∨ b = 6 ∨ b = 7 ∨ b = 8 ∨ b = 9 ∨ b = 10) : Lib.bitLen (2 ^ b) = b + 1 := by
  rcases h with rfl | rfl | rfl | rfl | rfl | rfl | rfl <;> decide +kernel

theorem notOk_bits (s : ByteArray) (h : ((Lib.bitLen s.size : Nat) : Int) - 1 < 4 ∨ 10 < ((Lib.bitLen s.size : Nat) : Int) - 1) : ¬ OkS s := by
  rintro ⟨⟨b, h1, h2, h3⟩, _⟩
  have h4 := bitLen_pow b (by omega)
  rw [← h3] at h4
  omega
theorem notOk_len (s : ByteArray) (b : Nat) (h : Lib.bitLen s.size = b + 1) (hne : s.size ≠ 2 ^ b) : ¬ OkS s := by
  rintro ⟨⟨b', h1, h2, h3⟩, _⟩
  have h4 := bitLen_pow b' (by omega)
  rw [← h3] at h4
  obtain rfl : b' = b := by omega
  exact hne h3
theorem notOk_byte (s : ByteArray) (k : Nat) (hk : k < s.size) (h : 26 < (bI s).getD k 0) : ¬ OkS s := by
  rintro ⟨_, h2⟩
  have hl : k < (bI s).length := by rw [bI_len]; exact hk
  rw [List.getD_eq_getElem?_getD, List.getElem?_eq_getElem hl, Option.getD_some] at h
  have := h2 _ (List.getElem_mem hl)
  omega

/-- The registers when k bytes have been laid. -/
def partTo (l : List Int) (k : Nat) : List Int := l.take k ++ List.replicate (l.length - k) 0
theorem partTo_zero (l : List Int) : partTo l 0 = List.replicate l.length 0 := by simp [partTo]
theorem partTo_all (l : List Int) : partTo l l.length = l := by simp [partTo]
theorem partTo_get (l : List Int) (k : Nat) (hk : k < l.length) : (partTo l k).getD k 0 = 0 := by
  simp only [partTo, List.getD_eq_getElem?_getD]
  rw [List.getElem?_append_right (by simp; omega)]
  simp only [List.getElem?_replicate]
  split <;> rfl
theorem partTo_succ (l : List Int) (k : Nat) (v : Int) (hk : k < l.length) (hv : l.getD k 0 = v) : (partTo l k).set k v = partTo l (k + 1) := by
  simp only [partTo]
  have e : k - (l.take k).length = 0 := by simp; omega
  rw [List.set_append_right _ _ (by simp; omega), e, List.take_succ_eq_append_getElem hk]
  obtain ⟨m, hm⟩ : ∃ m, l.length - k = m + 1 := ⟨l.length - k - 1, by omega⟩
  have hm2 : l.length - (k + 1) = m := by omega
  rw [hm, hm2, List.replicate_succ, List.set_cons_zero]
  rw [List.getD_eq_getElem?_getD, List.getElem?_eq_getElem hk, Option.getD_some] at hv
  simp [hv]

end Go.Proofs.YtapiehddcdnadaaDoor
