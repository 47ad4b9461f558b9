/- TopBack: the plain law: what is told may be told again. -/
import Derived.Test.YtcbheekfdhklcaaTopRa
namespace Go.Proofs.Ytcbheekfdhklcaa
open Go.RowKit
set_option linter.unusedVariables false
set_option linter.unusedSimpArgs false

theorem right_of_told {k all : Nat} {L s : List It} {real : List UInt8 → Nat} (O : Offenders k L real all) (hs : all ≤ 4611686018427387904) (hst : ∀ x ∈ L, x.over < x.many) (hsz : ∀ x ∈ L, x.name.size ≤ 64) (hT : Told L s) : RightP k all s := by
  have hsum : (s.map (·.many)).sum = all := by rw [(hT.perm.map _).sum_nat]; exact O.sum
  have hlen := hT.perm.length_eq
  refine ⟨by rw [hlen]; exact O.len, hs, fun i hi => ?_, hsum⟩
  have hm := hT.perm.subset (List.getElem_mem hi)
  have hg := it_get s i hi
  have hnd := hT.nodup O.nodup
  refine ⟨?_, ?_, ?_, ?_, ?_, ?_, ?_⟩
  · unfold twice
    rw [hg]
    rw [List.any_eq_false]
    intro o ho he
    obtain ⟨q, hq, rfl⟩ := List.mem_iff_getElem.1 ho
    rw [List.length_take] at hq
    rw [List.getElem_take] at he
    have hne := List.pairwise_iff_getElem.1 hnd q i (by simp; omega) (by simpa using hi) (by omega)
    rw [beq_iff_eq, Lib.toList_data, Lib.toList_data] at he
    exact hne (by simpa using he)
  · rw [hg]; exact hsz _ hm
  · rw [hg]; exact hst _ hm
  · have h1 := sumQ_succ s i hi
    have h2 := sumQ_le s (i + 1)
    rw [hsum, h1] at h2
    omega
  · rw [hg, it_get s (s.length - 1) (by omega)]
    exact Nat.le_trans (O.ov _ hm) (least_le (hT.perm.subset (List.getElem_mem _)))
  · rw [hg]
    by_cases h : s.length < k
    · have h1 := O.ov _ hm
      unfold leastT at h1
      rw [if_pos (by omega)] at h1
      exact .inl (by omega)
    · exact .inr h
  · by_cases h0 : i = 0
    · exact .inl h0
    · refine .inr ?_
      rw [hg, it_get s (i - 1) (by omega)]
      have h1 := List.pairwise_iff_getElem.1 hT.sort (i - 1) i (by omega) hi (by omega)
      cases h2 : ahead s[i - 1] s[i]
      · have h3 := ahead_an h2 h1
        exact absurd h3.2 (by
          have := List.pairwise_iff_getElem.1 hnd (i - 1) i (by simp; omega) (by simpa using hi) (by omega)
          simpa using this)
      · rfl

def byB (v : Int) : Nat := 1 + v.toNat / 128
def listB (k : Nat) (xs : List Int) : List It := xs.foldl (fun l v => addT k l (nmOf (v.toNat % 12)) (byB v)) []
def allB (xs : List Int) : Nat := (xs.map byB).sum
theorem listB_snoc (k : Nat) (xs : List Int) (v : Int) : listB k (xs ++ [v]) = addT k (listB k xs) (nmOf (v.toNat % 12)) (byB v) := by unfold listB; simp
theorem allB_snoc (xs : List Int) (v : Int) : allB (xs ++ [v]) = allB xs + byB v := by unfold allB; simp
theorem addT_strict {k : Nat} {l : List It} {nm : ByteArray} {n : Nat} (h0 : 0 < k) (hn : 0 < n) (h : ∀ x ∈ l, x.over < x.many) : ∀ x ∈ addT k l nm n, x.over < x.many := by
  intro x hx
  unfold addT at hx
  cases hf : findI l nm with
  | some j =>
    rw [hf] at hx
    obtain ⟨hj, _⟩ := findI_some hf
    rcases mem_set_it hj hx with rfl | ⟨i, hi, _, rfl⟩
    · have := h _ (List.getElem_mem hj)
      rw [it_get l j hj]
      simp only
      omega
    · exact h _ (List.getElem_mem hi)
  | none =>
    rw [hf] at hx
    simp only at hx
    split at hx
    · rcases List.mem_append.1 hx with h1 | h1
      · exact h x h1
      · rw [List.mem_singleton] at h1; subst h1; simp only; omega
    · next hlt =>
      have hl : l ≠ [] := fun e => by subst e; simp at hlt; omega
      rcases mem_set_it (worst_lt l hl) hx with rfl | ⟨i, hi, _, rfl⟩
      · simp only; omega
      · exact h _ (List.getElem_mem hi)
structure BackInv (k all : Nat) (L : List It) : Prop where
  off : ∃ real, Offenders k L real all
  st : ∀ x ∈ L, x.over < x.many
  sz : ∀ x ∈ L, x.name.size ≤ 64
theorem BackInv.add {k all : Nat} {L : List It} (B : BackInv k all L) (h0 : 0 < k) (nm : ByteArray) (hnm : nm.size ≤ 64) (n : Nat) (hn : 0 < n) : BackInv k (all + n) (addT k L nm n) := by
  obtain ⟨real, O⟩ := B.off
  refine ⟨⟨_, O.add h0 nm n⟩, addT_strict h0 hn B.st, fun x hx => ?_⟩
  rcases addT_names hx h0 with e | ⟨y, hy, e⟩
  · rw [e]; exact hnm
  · rw [e]; exact B.sz y hy
theorem BackInv.nil (k : Nat) : BackInv k 0 [] := ⟨⟨_, off_nil k⟩, by simp, by simp⟩
theorem back_take (k : Nat) (h0 : 0 < k) (xs : List Int) : ∀ j, j ≤ xs.length → BackInv k (allB (xs.take j)) (listB k (xs.take j))
  | 0, _ => BackInv.nil k
  | j + 1, h => by
    rw [take_snoc xs j (by omega), allB_snoc, listB_snoc]
    exact (back_take k h0 xs j (by omega)).add h0 _ (by rw [nmOf_size]; omega) _ (by unfold byB; omega)
end Go.Proofs.Ytcbheekfdhklcaa
