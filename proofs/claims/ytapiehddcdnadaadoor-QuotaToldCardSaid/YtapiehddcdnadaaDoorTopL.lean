/- TopHolds: the plain law. -/
import Derived.Test.YtapiehddcdnadaaDoorTopD
import Derived.Lib.ConvBytes
namespace Go.Proofs.YtapiehddcdnadaaDoor
open Go.RowKit
set_option linter.unusedVariables false
set_option linter.unusedSimpArgs false

def nmOf (c : Nat) : ByteArray := strOfNums [((97 + c : Nat) : Int)]
def nml (c : Nat) : List UInt8 := [UInt8.ofNat (97 + c)]
theorem nmOf_list (c : Nat) : (nmOf c).data.toList = nml c := rfl
theorem nmOf_size (c : Nat) : (nmOf c).size = 1 := rfl
theorem nm_inj {c d : Nat} (hc : c < 26) (hd : d < 26) (h : nml c = nml d) : c = d := by
  unfold nml at h
  injection h with h _
  have := congrArg UInt8.toNat h
  simp at this
  omega
def byV (v : Int) : Nat := 1 + v.toNat / 64
def leV (v : Int) : Nat := v.toNat % 26
theorem leV_lt (v : Int) : leV v < 26 := Nat.mod_lt _ (by omega)
def realT (xs : List Int) (c : Nat) : Nat := (xs.map fun v => if leV v = c then byV v else 0).sum
def realL (xs : List Int) (n : List UInt8) : Nat := (xs.map fun v => if n = nml (leV v) then byV v else 0).sum
def allT (xs : List Int) : Nat := (xs.map byV).sum
def listT (room : Nat) (xs : List Int) : List It := xs.foldl (fun l v => addT room l (nmOf (leV v)) (byV v)) []
theorem take_snoc (xs : List Int) (j : Nat) (h : j < xs.length) : xs.take (j + 1) = xs.take j ++ [xs.getD j 0] := by
  rw [List.take_succ_eq_append_getElem h, List.getD_eq_getElem?_getD, List.getElem?_eq_getElem h]; rfl
theorem realT_snoc (xs : List Int) (v : Int) (c : Nat) : realT (xs ++ [v]) c = if c = leV v then realT xs c + byV v else realT xs c := by
  unfold realT
  rw [List.map_append, List.sum_append]
  by_cases h : c = leV v
  · subst h; simp
  · have h2 : leV v ≠ c := fun e => h e.symm
    simp [h, h2]
theorem allT_snoc (xs : List Int) (v : Int) : allT (xs ++ [v]) = allT xs + byV v := by unfold allT; simp
theorem listT_snoc (room : Nat) (xs : List Int) (v : Int) : listT room (xs ++ [v]) = addT room (listT room xs) (nmOf (leV v)) (byV v) := by unfold listT; simp
theorem realL_snoc (xs : List Int) (v : Int) : realL (xs ++ [v]) = fun m => if m = (nmOf (leV v)).data.toList then realL xs m + byV v else realL xs m := by
  funext m
  unfold realL
  rw [List.map_append, List.sum_append, nmOf_list]
  by_cases h : m = nml (leV v) <;> simp [h]
theorem realL_T (xs : List Int) (c : Nat) (hc : c < 26) : realL xs (nml c) = realT xs c := by
  unfold realL realT
  congr 1
  refine List.map_congr_left (fun v _ => ?_)
  by_cases h : leV v = c
  · rw [h]; simp
  · rw [if_neg h, if_neg (fun e => h (nm_inj (leV_lt v) hc e.symm))]
theorem off_nil (room : Nat) : Offenders room [] (realL []) (allT []) := ⟨rfl, List.nodup_nil, Nat.zero_le _, by simp, by simp, by simp, by simp [realL]⟩
theorem off_take (room : Nat) (h0 : 0 < room) (xs : List Int) : ∀ j, j ≤ xs.length → Offenders room (listT room (xs.take j)) (realL (xs.take j)) (allT (xs.take j))
  | 0, _ => off_nil room
  | j + 1, h => by
    have ih := (off_take room h0 xs j (by omega)).add h0 (nmOf (leV (xs.getD j 0))) (byV (xs.getD j 0))
    rw [take_snoc xs j (by omega), listT_snoc, realL_snoc, allT_snoc]
    exact ih
theorem addT_names {room : Nat} {l : List It} {nm : ByteArray} {n : Nat} {x : It} (h : x ∈ addT room l nm n) (h0 : 0 < room) : x.name = nm ∨ ∃ y ∈ l, x.name = y.name := by
  unfold addT at h
  cases hf : findI l nm with
  | some k =>
    rw [hf] at h
    obtain ⟨hk, _⟩ := findI_some hf
    rcases mem_set_it hk h with rfl | ⟨j, hj, _, rfl⟩
    · exact .inr ⟨l[k], List.getElem_mem hk, by rw [it_get l k hk]⟩
    · exact .inr ⟨_, List.getElem_mem hj, rfl⟩
  | none =>
    rw [hf] at h
    simp only at h
    split at h
    · rcases List.mem_append.1 h with h | h
      · exact .inr ⟨x, h, rfl⟩
      · rw [List.mem_singleton] at h; subst h; exact .inl rfl
    · next hlt =>
      have hl : l ≠ [] := fun e => by subst e; simp at hlt; omega
      rcases mem_set_it (worst_lt l hl) h with rfl | ⟨j, hj, _, rfl⟩
      · exact .inl rfl
      · exact .inr ⟨_, List.getElem_mem hj, rfl⟩
theorem list_names (room : Nat) (h0 : 0 < room) (xs : List Int) : ∀ j, j ≤ xs.length → ∀ x ∈ listT room (xs.take j), ∃ c, c < 26 ∧ x.name = nmOf c
  | 0, _ => by intro x hx; cases hx
  | j + 1, h => by
    intro x hx
    rw [take_snoc xs j (by omega), listT_snoc] at hx
    rcases addT_names hx h0 with e | ⟨y, hy, e⟩
    · exact ⟨_, leV_lt _, e⟩
    · obtain ⟨c, hc, e2⟩ := list_names room h0 xs j (by omega) y hy
      exact ⟨c, hc, e.trans e2⟩
theorem all_le (xs : List Int) (hx : ∀ v ∈ xs, 0 ≤ v ∧ v ≤ 255) : allT xs ≤ 4 * xs.length := by
  induction xs with
  | nil => simp [allT]
  | cons v xs ih =>
    have h1 := ih (fun w hw => hx w (List.mem_cons_of_mem _ hw))
    have h2 := hx v List.mem_cons_self
    unfold allT at *
    simp only [List.map_cons, List.sum_cons, List.length_cons]
    unfold byV
    unfold byV at h1
    omega
theorem real_le (xs : List Int) (c : Nat) : realT xs c ≤ allT xs := by
  induction xs with
  | nil => simp [realT, allT]
  | cons v xs ih =>
    unfold realT allT at *
    simp only [List.map_cons, List.sum_cons]
    split <;> omega

/-- What the law asks of what is told. -/
structure HoldsFin (k all : Nat) (R : Nat → Nat) (s : List It) : Prop where
  nm : ∀ i, i < s.length → ∃ c, c < 26 ∧ (s.getD i default).name = nmOf c ∧ R c ≤ (s.getD i default).many ∧ (s.getD i default).many ≤ R c + (s.getD i default).over ∧ (s.getD i default).over ≤ (s.getD i default).many ∧ (s.getD i default).over ≤ all / k
  ord : ∀ i, 0 < i → i < s.length → (s.getD i default).many ≤ (s.getD (i - 1) default).many
  sum : (s.map (·.many)).sum = all
  told : ∀ c, c < 26 → all / k < R c → ∃ i, i < s.length ∧ (s.getD i default).name = nmOf c
  len : s.length ≤ k
theorem least_le {room : Nat} {l : List It} {x : It} (h : x ∈ l) : leastT room l ≤ x.many := by
  unfold leastT
  split
  · exact Nat.zero_le _
  · exact worst_min l x h
theorem holds_fin (k : Nat) (h0 : 0 < k) (xs : List Int) {s : List It} (hT : Told (listT k xs) s) : HoldsFin k (allT xs) (realT xs) s := by
  have O := off_take k h0 xs xs.length (Nat.le_refl _)
  have N := list_names k h0 xs xs.length (Nat.le_refl _)
  rw [List.take_length] at O N
  have hd := least_div O h0
  refine ⟨?_, ?_, ?_, ?_, ?_⟩
  · intro i hi
    rw [it_get s i hi]
    have hm := hT.perm.subset (List.getElem_mem hi)
    obtain ⟨c, hc, e⟩ := N _ hm
    have h1 := O.hi _ hm
    have h2 := O.lo _ hm
    have h3 := O.ov _ hm
    have h4 := least_le (room := k) hm
    rw [e, nmOf_list, realL_T xs c hc] at h1 h2
    exact ⟨c, hc, e, h1, h2, by omega, by omega⟩
  · intro i h1 h2
    rw [it_get s i h2, it_get s (i - 1) (by omega)]
    have := List.pairwise_iff_getElem.1 hT.sort (i - 1) i (by omega) h2 (by omega)
    rw [ahead_no, not_or] at this
    omega
  · rw [(hT.perm.map _).sum_nat]
    exact O.sum
  · intro c hc hlt
    have h1 : nml c ∈ nms (listT k xs) := by
      refine Classical.byContradiction (fun hno => ?_)
      have := O.out _ hno
      rw [realL_T xs c hc] at this
      omega
    obtain ⟨x, hx, e⟩ := List.mem_map.1 h1
    obtain ⟨d, hdd, e2⟩ := N x hx
    rw [e2, nmOf_list] at e
    have := nm_inj hdd hc e
    subst this
    obtain ⟨i, hi, e3⟩ := List.mem_iff_getElem.1 (hT.perm.symm.subset hx)
    exact ⟨i, hi, by rw [it_get s i hi, e3]; exact e2⟩
  · rw [hT.perm.length_eq]
    exact O.len
end Go.Proofs.YtapiehddcdnadaaDoor
