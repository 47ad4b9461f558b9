/- The order of what is told; what an addition does does not depend on the order. Lists alone. -/
import Derived.Test.YtapiehddcdnadaaGreatDoorTopP
namespace Go.Proofs.YtapiehddcdnadaaGreatDoor
set_option linter.unusedVariables false
set_option linter.unusedSimpArgs false

theorem l_irr (a : List UInt8) : ¬ a < a := List.lt_irrefl a
theorem l_tr {a b c : List UInt8} (h : a < b) (k : b < c) : a < c := List.lt_trans h k
theorem l_an {a b : List UInt8} (h : ¬ a < b) (k : ¬ b < a) : a = b := List.le_antisymm (List.not_lt.1 k) (List.not_lt.1 h)
theorem l_nt {a b c : List UInt8} (h : ¬ a < b) (k : ¬ b < c) : ¬ a < c := List.not_lt.2 (List.le_trans (List.not_lt.1 k) (List.not_lt.1 h))
theorem l_as {a b : List UInt8} (h : a < b) : ¬ b < a := fun k => l_irr a (l_tr h k)

/-- Is a told ahead of b? -/
def ahead (a b : It) : Bool := decide (b.many < a.many) || (decide (a.many = b.many) && decide (a.name.data.toList < b.name.data.toList))
def cmpI (a b : It) : Int :=
  if b.many < a.many then -1 else if a.many < b.many then 1 else if a.name.data.toList < b.name.data.toList then -1 else if b.name.data.toList < a.name.data.toList then 1 else 0
theorem ahead_iff (a b : It) : ahead a b = true ↔ b.many < a.many ∨ (a.many = b.many ∧ a.name.data.toList < b.name.data.toList) := by unfold ahead; simp
theorem ahead_no (a b : It) : ahead a b = false ↔ ¬ (b.many < a.many ∨ (a.many = b.many ∧ a.name.data.toList < b.name.data.toList)) := by rw [← ahead_iff]; simp
theorem cmpI_lt (a b : It) : decide (cmpI a b < 0) = ahead a b := by
  unfold cmpI ahead
  by_cases h1 : b.many < a.many
  · simp [h1]
  · by_cases h2 : a.many < b.many
    · have : ¬ a.many = b.many := by omega
      simp [h1, h2, this]
    · have h3 : a.many = b.many := by omega
      by_cases h4 : a.name.data.toList < b.name.data.toList
      · simp [h3, h4]
      · by_cases h5 : b.name.data.toList < a.name.data.toList <;> simp [h3, h4, h5]
theorem ahead_irr (a : It) : ahead a a = false := by rw [ahead_no]; intro h; rcases h with h | ⟨_, h⟩; omega; exact l_irr _ h
theorem ahead_tr (a b c : It) (h : ahead a b = true) (k : ahead b c = true) : ahead a c = true := by
  rw [ahead_iff] at *
  rcases h with h | ⟨h, h'⟩ <;> rcases k with k | ⟨k, k'⟩
  · exact .inl (by omega)
  · exact .inl (by omega)
  · exact .inl (by omega)
  · exact .inr ⟨by omega, l_tr h' k'⟩
theorem ahead_nt (a b c : It) (h : ahead a b = false) (k : ahead b c = false) : ahead a c = false := by
  rw [ahead_no, not_or] at *
  obtain ⟨h1, h2⟩ := h
  obtain ⟨k1, k2⟩ := k
  refine ⟨by omega, fun ⟨e, l⟩ => ?_⟩
  have e1 : a.many = b.many := by omega
  have e2 : b.many = c.many := by omega
  exact l_nt (fun x => h2 ⟨e1, x⟩) (fun x => k2 ⟨e2, x⟩) l
/-- Neither is ahead: the same name. -/
theorem ahead_an {a b : It} (h : ahead a b = false) (k : ahead b a = false) : a.many = b.many ∧ a.name.data.toList = b.name.data.toList := by
  rw [ahead_no, not_or] at *
  have e : a.many = b.many := by omega
  exact ⟨e, l_an (fun x => h.2 ⟨e, x⟩) (fun x => k.2 ⟨e.symm, x⟩)⟩

abbrev nms (l : List It) : List (List UInt8) := l.map (·.name.data.toList)
/-- Of one name there is one. -/
theorem nodup_name {l : List It} (h : (nms l).Nodup) {a b : It} (ha : a ∈ l) (hb : b ∈ l) (e : a.name.data.toList = b.name.data.toList) : a = b := by
  unfold List.Nodup nms at h
  rw [List.pairwise_map] at h
  obtain ⟨i, hi, rfl⟩ := List.mem_iff_getElem.1 ha
  obtain ⟨j, hj, rfl⟩ := List.mem_iff_getElem.1 hb
  rcases Nat.lt_trichotomy i j with h1 | h1 | h1
  · exact absurd e (List.pairwise_iff_getElem.1 h i j hi hj h1)
  · subst h1; rfl
  · exact absurd e.symm (List.pairwise_iff_getElem.1 h j i hj hi h1)

/-- What is told of l. -/
structure Told (l s : List It) : Prop where
  perm : s.Perm l
  sort : s.Pairwise (fun a b => ahead b a = false)
theorem Told.unique {l l' s s' : List It} (h : Told l s) (k : Told l' s') (hp : l.Perm l') (hn : (nms l).Nodup) : s = s' := by
  refine List.Perm.eq_of_pairwise (le := fun a b => ahead b a = false) ?_ h.sort k.sort (h.perm.trans (hp.trans k.perm.symm))
  intro a b ha hb h1 h2
  have h3 := ahead_an h1 h2
  exact nodup_name hn (h.perm.subset ha) (hp.symm.subset (k.perm.subset hb)) h3.2.symm
theorem Told.nil : Told [] [] := ⟨List.Perm.refl _, List.Pairwise.nil⟩
theorem Told.nodup {l s : List It} (h : Told l s) (hn : (nms l).Nodup) : (nms s).Nodup := (h.perm.map _).nodup_iff.2 hn
theorem Told.len {l s : List It} (h : Told l s) : s.length = l.length := h.perm.length_eq

/-- The reference's insertion. -/
def insAt (s : List It) (x : It) : Nat := (s.takeWhile (fun y => ahead y x)).length
def insT (s : List It) (x : It) : List It := s.takeWhile (fun y => ahead y x) ++ x :: s.dropWhile (fun y => ahead y x)
theorem tw_all {α : Type} (p : α → Bool) : ∀ (l : List α) (x : α), x ∈ l.takeWhile p → p x = true
  | [], x, h => by simp at h
  | y :: l, x, h => by
    rw [List.takeWhile_cons] at h
    split at h
    · next hy =>
      rcases List.mem_cons.1 h with rfl | h
      · exact hy
      · exact tw_all p l x h
    · simp at h
theorem insT_told {l s : List It} (h : Told l s) (x : It) : Told (l ++ [x]) (insT s x) := by
  have hs : s.takeWhile (fun y => ahead y x) ++ s.dropWhile (fun y => ahead y x) = s := List.takeWhile_append_dropWhile
  refine ⟨?_, ?_⟩
  · unfold insT
    refine (List.perm_middle).trans ?_
    rw [hs]
    exact (List.Perm.cons x h.perm).trans (List.perm_append_singleton x l).symm
  · unfold insT
    have hp := h.sort
    rw [← hs, List.pairwise_append] at hp
    obtain ⟨p1, p2, p3⟩ := hp
    have hd : ∀ z ∈ s.dropWhile (fun y => ahead y x), ahead z x = false := by
      intro z hz
      cases hdw : s.dropWhile (fun y => ahead y x) with
      | nil => rw [hdw] at hz; cases hz
      | cons y r =>
        have hy : ahead y x = false := by
          have := List.head?_dropWhile_not (fun y => ahead y x) s
          rw [hdw] at this
          simpa using this
        rw [hdw] at hz p2
        rcases List.mem_cons.1 hz with rfl | hz
        · exact hy
        · exact ahead_nt z y x ((List.pairwise_cons.1 p2).1 z hz) hy
    rw [List.pairwise_append, List.pairwise_cons]
    refine ⟨p1, ⟨hd, p2⟩, ?_⟩
    intro a ha b hb
    have hax := tw_all _ _ _ ha
    rcases List.mem_cons.1 hb with rfl | hb
    · cases hba : ahead b a
      · rfl
      · have := ahead_tr _ _ _ hax hba
        rw [ahead_irr] at this; cases this
    · exact p3 a ha b hb

/-- The worst one stands behind all. -/
theorem worse_not (a b : It) : worse a b = false ↔ ¬ (a.many < b.many ∨ (a.many = b.many ∧ a.name.data.toList < b.name.data.toList)) := by
  unfold worse; simp
theorem worse_nt (a b c : It) (h : worse a b = false) (k : worse b c = false) : worse a c = false := by
  rw [worse_not, not_or] at *
  obtain ⟨h1, h2⟩ := h
  obtain ⟨k1, k2⟩ := k
  refine ⟨by omega, fun ⟨e, l⟩ => ?_⟩
  have e1 : a.many = b.many := by omega
  have e2 : b.many = c.many := by omega
  exact l_nt (fun x => h2 ⟨e1, x⟩) (fun x => k2 ⟨e2, x⟩) l
theorem worse_irr (a : It) : worse a a = false := by rw [worse_not]; intro h; rcases h with h | ⟨_, h⟩; omega; exact l_irr _ h
theorem worse_as {a b : It} (h : worse a b = true) : worse b a = false := by
  rw [worse_not]
  unfold worse at h
  simp only [Bool.or_eq_true, Bool.and_eq_true, decide_eq_true_eq] at h
  rintro (k | ⟨k, k'⟩) <;> rcases h with h | ⟨h, h'⟩
  · omega
  · omega
  · omega
  · exact l_as h' k'
theorem worstTo_last (l : List It) : ∀ k j, j < k → worse (l.getD j default) (l.getD (worstTo l k) default) = false
  | 0, _, h => by omega
  | k + 1, j, h => by
    have ih := worstTo_last l k
    unfold worstTo
    split
    · next hw =>
      rcases Nat.lt_or_ge j k with h1 | h1
      · exact worse_nt _ _ _ (ih j h1) (worse_as hw)
      · obtain rfl : j = k := by omega
        exact worse_irr _
    · next hw =>
      rcases Nat.lt_or_ge j k with h1 | h1
      · exact ih j h1
      · obtain rfl : j = k := by omega
        exact Bool.eq_false_iff.2 hw
def worstI (l : List It) : It := l.getD (worst l) default
theorem worstI_mem {l : List It} (h : l ≠ []) : worstI l ∈ l := by
  unfold worstI
  rw [it_get l _ (worst_lt l h)]
  exact List.getElem_mem _
theorem worstI_last {l : List It} {x : It} (h : x ∈ l) : worse x (worstI l) = false := by
  obtain ⟨j, hj, rfl⟩ := List.mem_iff_getElem.1 h
  have := worstTo_last l l.length j hj
  rwa [it_get l j hj] at this
theorem worse_an {a b : It} (h : worse a b = false) (k : worse b a = false) : a.many = b.many ∧ a.name.data.toList = b.name.data.toList := by
  rw [worse_not, not_or] at *
  have e : a.many = b.many := by omega
  exact ⟨e, l_an (fun x => h.2 ⟨e, x⟩) (fun x => k.2 ⟨e.symm, x⟩)⟩
theorem worstI_perm {l l' : List It} (hp : l.Perm l') (hn : (nms l).Nodup) : worstI l = worstI l' := by
  by_cases h : l = []
  · subst h
    rw [List.Perm.nil_eq hp]
  · have h' : l' ≠ [] := fun e => h (by subst e; exact List.Perm.eq_nil hp)
    have m := worstI_mem h
    have m' := hp.symm.subset (worstI_mem h')
    have k := worse_an (worstI_last m') (worstI_last (hp.subset m))
    exact (nodup_name hn m' m k.2).symm

/-- To set the one of a name is to map. -/
theorem set_map {l : List It} (hn : (nms l).Nodup) {k : Nat} (hk : k < l.length) (y : It) : l.set k y = l.map (fun x => if x.name.data.toList = (l.getD k default).name.data.toList then y else x) := by
  refine List.ext_getElem (by simp) (fun i h1 h2 => ?_)
  rw [List.length_set] at h1
  have hg := it_get l k hk
  rw [List.getElem_set, List.getElem_map]
  generalize l.getD k default = z at hg h2 ⊢
  subst hg
  by_cases e : k = i
  · subst e; simp
  · rw [if_neg e, if_neg]
    intro e2
    have := (List.pairwise_iff_getElem.1 hn)
    rcases Nat.lt_or_gt_of_ne e with h3 | h3
    · exact this k i (by simpa using hk) (by simpa using h1) h3 (by simp [e2])
    · exact this i k (by simpa using h1) (by simpa using hk) h3 (by simp [e2])
theorem findI_isSome {l : List It} {nm : ByteArray} : (findI l nm).isSome = true ↔ nm.data.toList ∈ nms l := by
  constructor
  · intro h
    obtain ⟨k, hk⟩ := Option.isSome_iff_exists.1 h
    have := findI_some hk
    rw [it_get l k this.1] at this
    exact List.mem_map.2 ⟨l[k], List.getElem_mem this.1, this.2⟩
  · intro h
    cases hf : findI l nm with
    | some _ => rfl
    | none => exact absurd h (findI_none hf)
theorem addT_perm {room : Nat} {l l' : List It} (hp : l.Perm l') (hn : (nms l).Nodup) (h0 : 0 < room) (nm : ByteArray) (n : Nat) : (addT room l nm n).Perm (addT room l' nm n) := by
  have hn' : (nms l').Nodup := (hp.map _).nodup_iff.1 hn
  have hlen := hp.length_eq
  unfold addT
  cases hf : findI l nm with
  | some k =>
    obtain ⟨hk, e⟩ := findI_some hf
    have hm : nm.data.toList ∈ nms l' := (hp.map _).subset (findI_isSome.1 (by rw [hf]; rfl))
    obtain ⟨k', hf'⟩ := Option.isSome_iff_exists.1 (findI_isSome.2 hm)
    obtain ⟨hk', e'⟩ := findI_some hf'
    rw [hf']
    have same : l.getD k default = l'.getD k' default := by
      rw [it_get l k hk] at e ⊢
      rw [it_get l' k' hk'] at e' ⊢
      exact nodup_name hn (List.getElem_mem hk) (hp.symm.subset (List.getElem_mem hk')) (e.trans e'.symm)
    show (l.set k _).Perm (l'.set k' _)
    rw [set_map hn hk, set_map hn' hk', same]
    exact hp.map _
  | none =>
    have hm : nm.data.toList ∉ nms l' := fun h => findI_none hf ((hp.map _).symm.subset h)
    have hf' : findI l' nm = none := by
      cases h : findI l' nm with
      | none => rfl
      | some k => exact absurd (findI_isSome.1 (by rw [h]; rfl)) hm
    rw [hf']
    simp only
    rw [← hlen]
    split
    · exact hp.append_right _
    · next hge =>
      by_cases hl : l = []
      · subst hl; simp at hge; omega
      have hl' : l' ≠ [] := fun e => hl (by subst e; exact List.Perm.eq_nil hp)
      rw [set_map hn (worst_lt l hl), set_map hn' (worst_lt l' hl')]
      have same := worstI_perm hp hn
      unfold worstI at same
      rw [same]
      exact hp.map _
theorem least_perm {room : Nat} {l l' : List It} (hp : l.Perm l') (hn : (nms l).Nodup) : leastT room l = leastT room l' := by
  unfold leastT
  have := worstI_perm hp hn
  unfold worstI at this
  rw [hp.length_eq, this]
end Go.Proofs.YtapiehddcdnadaaGreatDoor
