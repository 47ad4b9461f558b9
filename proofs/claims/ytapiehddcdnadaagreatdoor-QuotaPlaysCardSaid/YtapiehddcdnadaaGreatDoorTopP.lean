/- Plain words for the top: items, who goes first, what an addition does. Numbers, bytes and lists alone. -/
import Derived.Below
import Derived.Sort.Defs
namespace Go.Proofs.YtapiehddcdnadaaGreatDoor
set_option linter.unusedVariables false
set_option linter.unusedSimpArgs false

/-- Who came: a name, how often at most, by how much that may be too much. -/
structure It where
  name : ByteArray
  many : Nat
  over : Nat
instance : Inhabited It := ⟨⟨⟨#[]⟩, 0, 0⟩⟩

/-- Does a go ahead of b, when one must go? -/
def worse (a b : It) : Bool := decide (a.many < b.many) || (decide (a.many = b.many) && decide (a.name.data.toList < b.name.data.toList))
/-- Of the first k: where the one stands that goes first. -/
def worstTo (l : List It) : Nat → Nat
  | 0 => 0
  | k + 1 => if worse (l.getD k default) (l.getD (worstTo l k) default) then k else worstTo l k
def worst (l : List It) : Nat := worstTo l l.length
/-- Where a name stands. -/
def findI (l : List It) (nm : ByteArray) : Option Nat := l.findIdx? fun x => x.name.data.toList == nm.data.toList
/-- The items behind an addition. -/
def addT (room : Nat) (l : List It) (nm : ByteArray) (n : Nat) : List It :=
  match findI l nm with
  | some k => l.set k ⟨(l.getD k default).name, (l.getD k default).many + n, (l.getD k default).over⟩
  | none => if l.length < room then l ++ [⟨nm, n, 0⟩] else l.set (worst l) ⟨nm, (l.getD (worst l) default).many + n, (l.getD (worst l) default).many⟩
/-- The least that is counted. -/
def leastT (room : Nat) (l : List It) : Nat := if l.length < room then 0 else (l.getD (worst l) default).many

theorem worstTo_lt (l : List It) : ∀ k, k ≠ 0 → worstTo l k < k
  | 0, h => absurd rfl h
  | k + 1, _ => by
    unfold worstTo
    split
    · omega
    · cases k with
      | zero => simp [worstTo]
      | succ k => have := worstTo_lt l (k + 1) (by omega); omega
theorem worstTo_min (l : List It) : ∀ k j, j < k → (l.getD (worstTo l k) default).many ≤ (l.getD j default).many
  | 0, _, h => by omega
  | k + 1, j, h => by
    have ih := worstTo_min l k
    unfold worstTo
    split
    · next hw =>
      unfold worse at hw
      simp only [Bool.or_eq_true, Bool.and_eq_true, decide_eq_true_eq] at hw
      rcases Nat.lt_or_ge j k with h1 | h1
      · have := ih j h1; omega
      · obtain rfl : j = k := by omega
        omega
    · next hw =>
      unfold worse at hw
      simp only [Bool.or_eq_true, Bool.and_eq_true, decide_eq_true_eq, not_or] at hw
      rcases Nat.lt_or_ge j k with h1 | h1
      · exact ih j h1
      · obtain rfl : j = k := by omega
        omega
theorem worst_lt (l : List It) (h : l ≠ []) : worst l < l.length := worstTo_lt l _ (by cases l; exact absurd rfl h; simp)
theorem worst_min (l : List It) (x : It) (h : x ∈ l) : (l.getD (worst l) default).many ≤ x.many := by
  obtain ⟨j, hj, rfl⟩ := List.mem_iff_getElem.1 h
  have := worstTo_min l l.length j hj
  rwa [List.getD_eq_getElem?_getD (l := l) (i := j), List.getElem?_eq_getElem hj] at this

/-- What the seed's theorem of offenders keeps: real tells how often each name came, all how many came. -/
structure Offenders (room : Nat) (l : List It) (real : List UInt8 → Nat) (all : Nat) : Prop where
  sum : (l.map (·.many)).sum = all
  nodup : (l.map (·.name.data.toList)).Nodup
  len : l.length ≤ room
  hi : ∀ x ∈ l, real x.name.data.toList ≤ x.many
  lo : ∀ x ∈ l, x.many ≤ real x.name.data.toList + x.over
  ov : ∀ x ∈ l, x.over ≤ leastT room l
  out : ∀ n, n ∉ l.map (·.name.data.toList) → real n ≤ leastT room l

theorem sum_ge (l : List It) (m : Nat) (h : ∀ x ∈ l, m ≤ x.many) : l.length * m ≤ (l.map (·.many)).sum := by
  induction l with
  | nil => simp
  | cons x l ih =>
    have h1 := ih (fun y hy => h y (List.mem_cons_of_mem _ hy))
    have h2 := h x List.mem_cons_self
    simp only [List.length_cons, List.map_cons, List.sum_cons, Nat.succ_mul]
    omega
theorem least_room (room : Nat) (l : List It) (h : l.length ≤ room) (h0 : 0 < room) : leastT room l * room ≤ (l.map (·.many)).sum := by
  unfold leastT
  split
  · simp
  · have e : l.length = room := by omega
    have := sum_ge l (l.getD (worst l) default).many (fun x hx => worst_min l x hx)
    rw [e] at this
    rwa [Nat.mul_comm] at this
theorem least_div {room : Nat} {l : List It} {real : List UInt8 → Nat} {all : Nat} (O : Offenders room l real all) (h0 : 0 < room) : leastT room l ≤ all / room := by
  rw [Nat.le_div_iff_mul_le h0, ← O.sum]
  exact least_room room l O.len h0

theorem findI_some {l : List It} {nm : ByteArray} {k : Nat} (h : findI l nm = some k) : k < l.length ∧ (l.getD k default).name.data.toList = nm.data.toList := by
  unfold findI at h
  obtain ⟨hk, h1, _⟩ := List.findIdx?_eq_some_iff_getElem.1 h
  refine ⟨hk, ?_⟩
  rw [List.getD_eq_getElem?_getD, List.getElem?_eq_getElem hk]
  simpa using h1
theorem findI_none {l : List It} {nm : ByteArray} (h : findI l nm = none) : nm.data.toList ∉ l.map (·.name.data.toList) := by
  unfold findI at h
  rw [List.findIdx?_eq_none_iff] at h
  intro hm
  obtain ⟨x, hx, e⟩ := List.mem_map.1 hm
  have := h x hx
  simp [e] at this

theorem it_get (l : List It) (k : Nat) (h : k < l.length) : l.getD k default = l[k] := by
  rw [List.getD_eq_getElem?_getD, List.getElem?_eq_getElem h]; rfl
theorem sum_set (l : List It) (k : Nat) (x : It) (h : k < l.length) : ((l.set k x).map (·.many)).sum + (l.getD k default).many = (l.map (·.many)).sum + x.many := by
  induction l generalizing k with
  | nil => simp at h
  | cons y l ih =>
    cases k with
    | zero => simp; omega
    | succ k =>
      have := ih k (by simpa using h)
      simp only [List.set_cons_succ, List.map_cons, List.sum_cons, List.getD_cons_succ]
      omega
/-- What the set list holds. -/
theorem mem_set_it {l : List It} {k : Nat} {x y : It} (hk : k < l.length) (h : y ∈ l.set k x) : y = x ∨ ∃ j, ∃ hj : j < l.length, j ≠ k ∧ y = l[j] := by
  obtain ⟨j, hj, rfl⟩ := List.mem_iff_getElem.1 h
  rw [List.length_set] at hj
  rw [List.getElem_set]
  split
  · exact .inl rfl
  · next hne => exact .inr ⟨j, hj, fun e => hne e.symm, rfl⟩
theorem least_mono {room : Nat} {l l' : List It} (hl : l'.length = l.length) (h : ∀ j, j < l.length → (l.getD (worst l) default).many ≤ (l'.getD j default).many) : leastT room l ≤ leastT room l' := by
  unfold leastT
  rw [hl]
  split
  · exact Nat.le_refl _
  · by_cases h0 : l = []
    · subst h0
      have : l' = [] := List.eq_nil_of_length_eq_zero hl
      subst this
      exact Nat.le_refl _
    · have h1 : l' ≠ [] := fun e => h0 (List.eq_nil_of_length_eq_zero (by rw [← hl, e]; rfl))
      exact h _ (by rw [← hl]; exact worst_lt l' h1)

theorem nodup_set {α : Type} {l : List α} (h : l.Nodup) {a : α} (ha : a ∉ l) (k : Nat) : (l.set k a).Nodup := by
  unfold List.Nodup at *
  rw [List.pairwise_iff_getElem] at *
  intro i j hi hj hij
  rw [List.length_set] at hi hj
  rw [List.getElem_set, List.getElem_set]
  split <;> split
  · omega
  · intro e; exact ha (e ▸ List.getElem_mem hj)
  · intro e; exact ha (e ▸ List.getElem_mem hi)
  · exact h i j hi hj hij
theorem Offenders.add {room : Nat} {l : List It} {real : List UInt8 → Nat} {all : Nat} (O : Offenders room l real all) (h0 : 0 < room) (nm : ByteArray) (n : Nat) :
    Offenders room (addT room l nm n) (fun m => if m = nm.data.toList then real m + n else real m) (all + n) := by
  unfold addT
  cases hf : findI l nm with
  | some k =>
    obtain ⟨hk, hn⟩ := findI_some hf
    show Offenders room (l.set k ⟨(l.getD k default).name, (l.getD k default).many + n, (l.getD k default).over⟩) _ _
    rw [it_get l k hk] at hn ⊢
    have hmono : leastT room l ≤ leastT room (l.set k ⟨l[k].name, l[k].many + n, l[k].over⟩) := by
      refine least_mono (by simp) (fun j hj => ?_)
      rw [it_get _ j (by simpa using hj), List.getElem_set]
      split
      · exact Nat.le_trans (worst_min l l[k] (List.getElem_mem hk)) (Nat.le_add_right _ _)
      · exact worst_min l l[j] (List.getElem_mem hj)
    have hne : ∀ j (hj : j < l.length), j ≠ k → l[j].name.data.toList ≠ nm.data.toList := fun j hj hjk e => by
      have hd := O.nodup
      unfold List.Nodup at hd
      rw [List.pairwise_iff_getElem] at hd
      rcases Nat.lt_or_gt_of_ne hjk with h1 | h1
      · exact hd j k (by simpa using hj) (by simpa using hk) h1 (by simp [e, hn])
      · exact hd k j (by simpa using hk) (by simpa using hj) h1 (by simp [e, hn])
    refine ⟨?_, ?_, by simpa using O.len, ?_, ?_, ?_, ?_⟩
    · have := sum_set l k ⟨l[k].name, l[k].many + n, l[k].over⟩ hk
      rw [it_get l k hk, O.sum] at this
      simp only at *
      omega
    · rw [List.map_set]
      have e : (l.map (·.name.data.toList)).set k l[k].name.data.toList = l.map (·.name.data.toList) := by
        have := List.set_getElem_self (as := l.map (·.name.data.toList)) (i := k) (by simpa using hk)
        simpa using this
      rw [e]
      exact O.nodup
    · intro x hx
      rcases mem_set_it hk hx with rfl | ⟨j, hj, hjk, rfl⟩
      · have := O.hi l[k] (List.getElem_mem hk)
        simp only [hn, if_true] at *
        omega
      · have := O.hi l[j] (List.getElem_mem hj)
        simp only [if_neg (hne j hj hjk)]
        exact this
    · intro x hx
      rcases mem_set_it hk hx with rfl | ⟨j, hj, hjk, rfl⟩
      · have := O.lo l[k] (List.getElem_mem hk)
        simp only [hn, if_true] at *
        omega
      · have := O.lo l[j] (List.getElem_mem hj)
        simp only [if_neg (hne j hj hjk)]
        exact this
    · intro x hx
      rcases mem_set_it hk hx with rfl | ⟨j, hj, hjk, rfl⟩
      · exact Nat.le_trans (O.ov l[k] (List.getElem_mem hk)) hmono
      · exact Nat.le_trans (O.ov l[j] (List.getElem_mem hj)) hmono
    · intro m hm
      have e : (l.set k ⟨l[k].name, l[k].many + n, l[k].over⟩).map (·.name.data.toList) = l.map (·.name.data.toList) := by
        rw [List.map_set]
        have := List.set_getElem_self (as := l.map (·.name.data.toList)) (i := k) (by simpa using hk)
        simpa using this
      rw [e] at hm
      have hmn : m ≠ nm.data.toList := fun e2 => hm (by
        rw [e2, ← hn]
        exact List.mem_map.2 ⟨l[k], List.getElem_mem hk, rfl⟩)
      simp only [if_neg hmn]
      exact Nat.le_trans (O.out m hm) hmono
  | none =>
    have hno := findI_none hf
    simp only
    split
    · next hlt =>
      have hL : leastT room l = 0 := by unfold leastT; rw [if_pos hlt]
      have hr0 : real nm.data.toList = 0 := by have := O.out _ hno; omega
      refine ⟨?_, ?_, by simp; omega, ?_, ?_, ?_, ?_⟩
      · simp [O.sum]
      · rw [List.map_append, List.map_singleton, List.nodup_append]
        refine ⟨O.nodup, by simp, fun a ha b hb e => ?_⟩
        rw [List.mem_singleton] at hb
        rw [e, hb] at ha
        exact hno ha
      · intro x hx
        rcases List.mem_append.1 hx with h1 | h1
        · have h2 : x.name.data.toList ≠ nm.data.toList := fun e => hno (e ▸ List.mem_map.2 ⟨x, h1, rfl⟩)
          simp only [if_neg h2]; exact O.hi x h1
        · rw [List.mem_singleton] at h1; subst h1; simp [hr0]
      · intro x hx
        rcases List.mem_append.1 hx with h1 | h1
        · have h2 : x.name.data.toList ≠ nm.data.toList := fun e => hno (e ▸ List.mem_map.2 ⟨x, h1, rfl⟩)
          simp only [if_neg h2]; exact O.lo x h1
        · rw [List.mem_singleton] at h1; subst h1; simp
      · intro x hx
        rcases List.mem_append.1 hx with h1 | h1
        · have := O.ov x h1; omega
        · rw [List.mem_singleton] at h1; subst h1; simp
      · intro m hm
        rw [List.map_append, List.map_singleton, List.mem_append, List.mem_singleton, not_or] at hm
        simp only [if_neg hm.2]
        have := O.out m hm.1
        omega
    · next hge =>
      have hlen : l.length = room := by have := O.len; omega
      have hl0 : l ≠ [] := fun e => by rw [e] at hlen; simp at hlen; omega
      have hw := worst_lt l hl0
      have hL : leastT room l = (l.getD (worst l) default).many := by unfold leastT; rw [if_neg hge]
      rw [it_get l _ hw] at hL ⊢
      have hmono : leastT room l ≤ leastT room (l.set (worst l) ⟨nm, l[worst l].many + n, l[worst l].many⟩) := by
        refine least_mono (by simp) (fun j hj => ?_)
        rw [it_get _ j (by simpa using hj), List.getElem_set, it_get l _ hw]
        split
        · simp
        · have := worst_min l l[j] (List.getElem_mem hj)
          rwa [it_get l _ hw] at this
      have hne : ∀ j (hj : j < l.length), l[j].name.data.toList ≠ nm.data.toList := fun j hj e => hno (e ▸ List.mem_map.2 ⟨l[j], List.getElem_mem hj, rfl⟩)
      have hout := O.out _ hno
      refine ⟨?_, ?_, by simpa using O.len, ?_, ?_, ?_, ?_⟩
      · have := sum_set l (worst l) ⟨nm, l[worst l].many + n, l[worst l].many⟩ hw
        rw [it_get l _ hw, O.sum] at this
        simp only at *
        omega
      · rw [List.map_set]
        exact nodup_set O.nodup hno _
      · intro x hx
        rcases mem_set_it hw hx with rfl | ⟨j, hj, hjk, rfl⟩
        · simp only [if_true]; omega
        · simp only [if_neg (hne j hj)]; exact O.hi _ (List.getElem_mem hj)
      · intro x hx
        rcases mem_set_it hw hx with rfl | ⟨j, hj, hjk, rfl⟩
        · simp only [if_true]; omega
        · simp only [if_neg (hne j hj)]; exact O.lo _ (List.getElem_mem hj)
      · intro x hx
        rcases mem_set_it hw hx with rfl | ⟨j, hj, hjk, rfl⟩
        · simp only; omega
        · exact Nat.le_trans (O.ov _ (List.getElem_mem hj)) hmono
      · intro m hm
        by_cases hmn : m = nm.data.toList
        · exact absurd (hmn ▸ List.mem_map.2 ⟨_, List.mem_of_getElem? (i := worst l) (by simp [hw]; rfl), rfl⟩) hm
        · simp only [if_neg hmn]
          by_cases hmm : m ∈ l.map (·.name.data.toList)
          · obtain ⟨x, hx, rfl⟩ := List.mem_map.1 hmm
            obtain ⟨j, hj, rfl⟩ := List.mem_iff_getElem.1 hx
            by_cases hjw : j = worst l
            · subst hjw
              have := O.hi _ (List.getElem_mem hj)
              omega
            · exact absurd (List.mem_map.2 ⟨l[j], List.mem_iff_getElem.2 ⟨j, by simpa using hj, by rw [List.getElem_set_ne (fun e => hjw e.symm)]⟩, rfl⟩) hm
          · exact Nat.le_trans (O.out m hmm) hmono
end Go.Proofs.YtapiehddcdnadaaGreatDoor
