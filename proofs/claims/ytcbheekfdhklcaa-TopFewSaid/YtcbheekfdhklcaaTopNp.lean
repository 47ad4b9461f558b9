/- TopFew: the plain law. -/
import Derived.Test.YtcbheekfdhklcaaTopL
namespace Go.Proofs.Ytcbheekfdhklcaa
open Go.RowKit
set_option linter.unusedVariables false
set_option linter.unusedSimpArgs false

/-- How many of the first k are not nothing. -/
def cnt (R : Nat → Nat) : Nat → Nat
  | 0 => 0
  | k + 1 => cnt R k + if 0 < R k then 1 else 0
theorem cnt_le (R : Nat → Nat) : ∀ k, cnt R k ≤ k
  | 0 => Nat.le_refl _
  | k + 1 => by unfold cnt; have := cnt_le R k; split <;> omega
theorem cnt_lt (R : Nat → Nat) (c : Nat) (h : R c = 0) : ∀ k, c < k → cnt R k < k
  | 0, hc => by omega
  | k + 1, hc => by
    unfold cnt
    have h1 := cnt_le R k
    by_cases e : c = k
    · subst e; rw [h]; simp; omega
    · have := cnt_lt R c h k (by omega)
      split <;> omega
def bump (R : Nat → Nat) (c : Nat) : Nat → Nat := fun d => if d = c then R d + 1 else R d
theorem cnt_far (R : Nat → Nat) (c : Nat) : ∀ k, k ≤ c → cnt (bump R c) k = cnt R k
  | 0, _ => rfl
  | k + 1, h => by
    unfold cnt
    rw [cnt_far R c k (by omega)]
    have : bump R c k = R k := if_neg (by omega)
    rw [this]
theorem cnt_bump (R : Nat → Nat) (c : Nat) : ∀ k, c < k → cnt (bump R c) k = cnt R k + if 0 < R c then 0 else 1
  | 0, h => by omega
  | k + 1, h => by
    unfold cnt
    by_cases e : c = k
    · subst e
      rw [cnt_far R c c (Nat.le_refl _)]
      have : bump R c c = R c + 1 := if_pos rfl
      rw [this]
      by_cases h2 : 0 < R c <;> simp [h2]
    · rw [cnt_bump R c k (by omega)]
      have : bump R c k = R k := if_neg (fun e2 => e e2.symm)
      rw [this]
      omega

structure FewInv (k : Nat) (R : Nat → Nat) (l : List It) : Prop where
  it : ∀ x ∈ l, ∃ c, c < k ∧ x.name = nmOf c ∧ x.over = 0 ∧ x.many = R c ∧ 0 < R c
  all : ∀ c, c < k → 0 < R c → nml c ∈ nms l
  len : l.length = cnt R k
theorem FewInv.nil (k : Nat) : FewInv k (fun _ => 0) [] := by
  refine ⟨by simp, by simp, ?_⟩
  have : ∀ k, cnt (fun _ => 0) k = 0 := by
    intro k
    induction k with
    | zero => rfl
    | succ k ih => unfold cnt; rw [ih]; rfl
  rw [this]; rfl
theorem FewInv.add {k : Nat} {R : Nat → Nat} {l : List It} (F : FewInv k R l) (hd : (nms l).Nodup) (hk : k ≤ 26) (c : Nat) (hc : c < k) : FewInv k (bump R c) (addT k l (nmOf c) 1) := by
  have hb : ∀ d, d ≠ c → bump R c d = R d := fun d h => if_neg h
  have hbc : bump R c c = R c + 1 := if_pos rfl
  have hlen := cnt_bump R c k hc
  unfold addT
  cases hf : findI l (nmOf c) with
  | some j =>
    obtain ⟨hj, e⟩ := findI_some hf
    show FewInv k _ (l.set j ⟨(l.getD j default).name, (l.getD j default).many + 1, (l.getD j default).over⟩)
    rw [it_get l j hj] at e ⊢
    obtain ⟨d, hdk, hn, ho, hm, hp⟩ := F.it _ (List.getElem_mem hj)
    rw [hn, nmOf_list, nmOf_list] at e
    have hdc : d = c := nm_inj (by omega) (by omega) e
    subst hdc
    refine ⟨?_, ?_, ?_⟩
    · intro x hx
      rcases mem_set_it hj hx with rfl | ⟨i, hi, hij, rfl⟩
      · exact ⟨d, hdk, hn, ho, by simp only; omega, by omega⟩
      · obtain ⟨d2, h1, h2, h3, h4, h5⟩ := F.it _ (List.getElem_mem hi)
        have : d2 ≠ d := fun e2 => by
          subst e2
          have hp2 := List.pairwise_iff_getElem.1 hd
          have e3 : l[i].name.data.toList = l[j].name.data.toList := by rw [h2, hn]
          rcases Nat.lt_or_gt_of_ne hij with h6 | h6
          · exact hp2 i j (by simpa using hi) (by simpa using hj) h6 (by simpa using e3)
          · exact hp2 j i (by simpa using hj) (by simpa using hi) h6 (by simpa using e3.symm)
        exact ⟨d2, h1, h2, h3, by rw [hb d2 this]; exact h4, by rw [hb d2 this]; exact h5⟩
    · intro d2 h1 h2
      have e4 : nms (l.set j ⟨l[j].name, l[j].many + 1, l[j].over⟩) = nms l := by
        simp only [nms, List.map_set]
        have := @List.set_getElem_self _ (l.map (·.name.data.toList)) j (by simpa using hj)
        simpa using this
      rw [e4]
      by_cases e5 : d2 = d
      · subst e5; exact F.all d2 h1 hp
      · rw [hb d2 e5] at h2; exact F.all d2 h1 h2
    · rw [List.length_set, F.len, hlen, if_pos hp]; rfl
  | none =>
    have hno := findI_none hf
    rw [nmOf_list] at hno
    have hR : R c = 0 := by
      rcases Nat.eq_zero_or_pos (R c) with h | h
      · exact h
      · exact absurd (F.all c hc h) hno
    have hlt : l.length < k := by rw [F.len]; exact cnt_lt R c hR k hc
    simp only
    rw [if_pos hlt]
    refine ⟨?_, ?_, ?_⟩
    · intro x hx
      rcases List.mem_append.1 hx with h | h
      · obtain ⟨d2, h1, h2, h3, h4, h5⟩ := F.it x h
        have : d2 ≠ c := fun e2 => by subst e2; omega
        exact ⟨d2, h1, h2, h3, by rw [hb d2 this]; exact h4, by rw [hb d2 this]; exact h5⟩
      · rw [List.mem_singleton] at h
        subst h
        exact ⟨c, hc, rfl, rfl, by simp only; omega, by omega⟩
    · intro d2 h1 h2
      simp only [nms, List.map_append, List.mem_append]
      by_cases e5 : d2 = c
      · subst e5; exact .inr (by simp [nmOf_list])
      · rw [hb d2 e5] at h2; exact .inl (F.all d2 h1 h2)
    · rw [List.length_append, F.len, hlen, hR]; rfl
theorem FewInv.least {k : Nat} {R : Nat → Nat} {l : List It} (F : FewInv k R l) (h0 : 0 < k) : (leastT k l = 0) ↔ cnt R k < k := by
  unfold leastT
  rw [F.len]
  split
  · next h => simp [h]
  · next h =>
    have hl : l ≠ [] := fun e => by have := F.len; subst e; simp at this; omega
    obtain ⟨c, _, _, _, h4, h5⟩ := F.it _ (worstI_mem hl)
    unfold worstI at h4
    constructor
    · intro h6; omega
    · intro h6; omega
end Go.Proofs.Ytcbheekfdhklcaa
