/- QuotaTold: the plain law. -/
import Derived.Test.YtapiehddcdnadaaDoorTopMa
import Derived.Test.YtapiehddcdnadaaDoorQuA
namespace Go.Proofs.YtapiehddcdnadaaDoor
open Go.RowKit
set_option linter.unusedVariables false
set_option linter.unusedSimpArgs false

/-- How often each of eight letters came, by its name. -/
def realF (R : Nat → Nat) (n : List UInt8) : Nat := ((List.range 8).map fun c => if n = nml c then R c else 0).sum
theorem sum_one (R : Nat → Nat) (n : List UInt8) (c : Nat) (m : Nat) (hn : n = nml c) (hm : m ≤ 26) (hc : c < 26) : ((List.range m).map fun d => if n = nml d then R d else 0).sum = if c < m then R c else 0 := by
  induction m with
  | zero => simp
  | succ m ih =>
    rw [List.range_succ, List.map_append, List.sum_append, ih (by omega)]
    by_cases e : c = m
    · subst e
      simp [hn]
    · have h2 : ¬ n = nml m := fun h => e (nm_inj hc (by omega) (hn.symm.trans h))
      simp only [List.map_cons, List.map_nil, List.sum_cons, List.sum_nil, if_neg h2]
      by_cases h3 : c < m
      · rw [if_pos h3, if_pos (by omega)]; rfl
      · rw [if_neg h3, if_neg (by omega)]; rfl
theorem realF_at (R : Nat → Nat) (c : Nat) (hc : c < 8) : realF R (nml c) = R c := by
  unfold realF
  rw [sum_one R (nml c) c 8 rfl (by omega) (by omega), if_pos hc]
def upR (R : Nat → Nat) (c : Nat) : Nat → Nat := fun d => if d = c then R d + 1 else R d
theorem realF_up (R : Nat → Nat) (c : Nat) (hc : c < 8) : realF (upR R c) = fun m => if m = nml c then realF R m + 1 else realF R m := by
  funext m
  by_cases h : m = nml c
  · subst h
    rw [if_pos rfl, realF_at _ c hc, realF_at _ c hc]
    exact if_pos rfl
  · rw [if_neg h]
    unfold realF
    congr 1
    refine List.map_congr_left (fun d _ => ?_)
    by_cases e : d = c
    · subst e; rw [if_neg h, if_neg h]
    · unfold upR; rw [if_neg e]
theorem realF_zero (n : List UInt8) : realF (fun _ => 0) n = 0 := by
  unfold realF
  simp [List.range_succ]
/-- What is held while they come. -/
structure ToldI (k : Nat) (R : Nat → Nat) (all : Nat) (l : List It) : Prop where
  off : Offenders k l (realF R) all
  nm : ∀ x ∈ l, ∃ c, c < 8 ∧ x.name = nmOf c
  le : ∀ c, c < 8 → R c ≤ all
theorem ToldI.nil (k : Nat) : ToldI k (fun _ => 0) 0 [] := ⟨⟨rfl, List.nodup_nil, Nat.zero_le _, by simp, by simp, by simp, by intro n _; rw [realF_zero]; exact Nat.zero_le _⟩, by simp, fun _ _ => Nat.le_refl _⟩
theorem ToldI.add {k : Nat} {R : Nat → Nat} {all : Nat} {l : List It} (h : ToldI k R all l) (h0 : 0 < k) (c : Nat) (hc : c < 8) : ToldI k (upR R c) (all + 1) (addT k l (nmOf c) 1) := by
  refine ⟨?_, ?_, ?_⟩
  · have h1 := h.off.add h0 (nmOf c) 1
    rw [realF_up R c hc]
    rw [nmOf_list] at h1
    exact h1
  · intro x hx
    rcases addT_names hx h0 with e | ⟨y, hy, e⟩
    · exact ⟨c, hc, e⟩
    · obtain ⟨d, hd, e2⟩ := h.nm y hy
      exact ⟨d, hd, e.trans e2⟩
  · intro d hd
    have := h.le d hd
    unfold upR
    split <;> omega
/-- What the law asks of what is told. -/
structure ToldFin (k all : Nat) (R : Nat → Nat) (s : List It) : Prop where
  nm : ∀ i, i < s.length → ∃ c, c < 8 ∧ (s.getD i default).name = nmOf c ∧ R c ≤ (s.getD i default).many ∧ (s.getD i default).many ≤ R c + (s.getD i default).over ∧ (s.getD i default).over ≤ (s.getD i default).many ∧ (s.getD i default).over ≤ all / k ∧ (s.getD i default).many ≤ all
  told : ∀ c, c < 8 → all / k < R c → ∃ i, i < s.length ∧ (s.getD i default).name = nmOf c
  len : s.length ≤ k
theorem told_fin {k all : Nat} {R : Nat → Nat} {l s : List It} (h : ToldI k R all l) (h0 : 0 < k) (hT : Told l s) : ToldFin k all R s := by
  have O := h.off
  have hd := least_div O h0
  refine ⟨?_, ?_, ?_⟩
  · intro i hi
    rw [it_get s i hi]
    have hm := hT.perm.subset (List.getElem_mem hi)
    obtain ⟨c, hc, e⟩ := h.nm _ hm
    have h1 := O.hi _ hm
    have h2 := O.lo _ hm
    have h3 := O.ov _ hm
    have h4 := least_le (room := k) hm
    have h5 := mem_le_sum hm
    rw [O.sum] at h5
    rw [e, nmOf_list, realF_at R c hc] at h1 h2
    exact ⟨c, hc, e, h1, h2, by omega, by omega, h5⟩
  · intro c hc hlt
    have h1 : nml c ∈ nms l := by
      refine Classical.byContradiction (fun hno => ?_)
      have := O.out _ hno
      rw [realF_at R c hc] at this
      omega
    obtain ⟨x, hx, e⟩ := List.mem_map.1 h1
    obtain ⟨d, hdd, e2⟩ := h.nm x hx
    rw [e2, nmOf_list] at e
    have := nm_inj (by omega) (by omega) e
    subst this
    obtain ⟨i, hi, e3⟩ := List.mem_iff_getElem.1 (hT.perm.symm.subset hx)
    exact ⟨i, hi, by rw [it_get s i hi, e3]; exact e2⟩
  · rw [hT.perm.length_eq]
    exact O.len
theorem told_admit {q : QS} {R : Nat → Nat} {all : Nat} (h : ToldI q.room R all q.l) (h0 : 0 < q.room) (hs : q.seen ≤ 1000) (key : ByteArray) (c : Nat) (hc : c < 8) (known full : Bool) :
    (admitE q key known full = 0 → ToldI q.room R all (admitQ q key (nmOf c) known full).l ∧ (admitQ q key (nmOf c) known full).seen = q.seen) ∧ (admitE q key known full ≠ 0 → ToldI q.room (upR R c) (all + 1) (admitQ q key (nmOf c) known full).l ∧ (admitQ q key (nmOf c) known full).seen = q.seen + 1) := by
  have hz : addE q.seen (nmOf c) 1 = 0 := addE_ok (by rw [nmOf_size]; omega) (by omega) (by omega)
  constructor
  · intro he
    unfold admitQ
    rw [if_pos he]
    exact ⟨h, rfl⟩
  · intro he
    unfold admitQ
    rw [if_neg he]
    refine ⟨?_, ?_⟩
    · show ToldI q.room (upR R c) (all + 1) (stepT q.room q.seen q.l (nmOf c) 1)
      unfold stepT
      rw [if_pos hz]
      exact h.add h0 c hc
    · show stepS q.seen (nmOf c) 1 = q.seen + 1
      unfold stepS
      rw [if_pos hz]
end Go.Proofs.YtapiehddcdnadaaDoor
