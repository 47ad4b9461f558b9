/- The sort's row: what lies there behind it. -/
import Derived.Test.YtapiehddcdnadaaDoorTopG2
import Derived.Shelf.SlSortCmp.NoneTotal
import Derived.Sort.OwnSorted
namespace Go.Proofs.YtapiehddcdnadaaDoor
open Go.RowKit
set_option linter.unusedVariables false
set_option linter.unusedSimpArgs false

theorem encI_len (x : It) : (encI x).length = 3 := rfl
theorem flatK_flat (d : Array It) : (Go.Sort.flatK encI 3 d).toList = flat d.toList := by
  refine List.ext_getElem? (fun t => ?_)
  by_cases ht : t < d.size * 3
  · have h1 := Go.Sort.get_flatK encI 3 d t ht
    have h2 := flat_get d.toList (t / 3) (t % 3) (by simp; omega) (by omega)
    have h3 : t / 3 * 3 + t % 3 = t := by omega
    rw [h3] at h2
    rw [h2]
    have h4 : d.toList.getD (t / 3) default = d[t / 3]! := by
      rw [it_get _ _ (by simp; omega), getElem!_pos d (t / 3) (by omega)]; simp
    rw [h4, Array.getElem?_toList, Array.getElem?_eq_getElem (by rw [Go.Sort.size_flatK]; exact ht)]
    rw [getElem!_pos _ t (by rw [Go.Sort.size_flatK]; exact ht)] at h1
    rw [h1]
    have h5 : t % 3 < (encI d[t / 3]!).length := by rw [encI_len]; omega
    rw [getElem!_pos (encI d[t / 3]!) (t % 3) h5, List.getElem?_eq_getElem h5]
  · rw [List.getElem?_eq_none (by simp; omega), List.getElem?_eq_none (by rw [flat_len]; simp; omega)]
theorem take_putCellsI (cur F : Array Value) (h : F.size ≤ cur.size) : (Go.Sort.putCells id 0 F cur).toList.take F.size = F.toList := by
  apply List.ext_getElem?
  intro j
  by_cases hj : j < F.size
  · rw [List.getElem?_take_of_lt hj, Array.getElem?_toList]
    simp [Go.Sort.putCells, hj, show j < cur.size by omega]
  · rw [List.getElem?_take_eq_none (by omega), List.getElem?_eq_none (by simp; omega)]
theorem heap_sortedI {w : World} {g n : Nat} {os : Array Obj} {cur : Array Value} {e : TypeId} {fr : Nat × Nat} (d : Array It) (hb : w.heap[g]? = some (.cells cur e fr)) :
    (sortWorldK encI 3 w g 0 n d os).heap[g]? = some (.cells (Go.Sort.putCells id 0 (Go.Sort.flatK encI 3 d) cur) e fr) := by
  have hg : g < w.heap.size := (Array.getElem?_eq_some_iff.1 hb).1
  unfold sortWorldK Go.Sort.putRowK
  rw [Go.Sort.heap_grow_old _ _ (by simpa using hg)]
  simp [Go.Sort.putRow, Go.Sort.mapBlock, Go.Sort.ahead, Array.getElem?_modify, hb, Go.Sort.onCells]
theorem grownBy_sortedI {w : World} {g n : Nat} {os : Array Obj} (d : Array It) : w.grownBy (sortWorldK encI 3 w g 0 n d os) (some g) := by
  refine ⟨rfl, rfl, rfl, by simp [sortWorldK, Go.Sort.putRowK], fun k hk hne => ?_⟩
  unfold sortWorldK Go.Sort.putRowK
  rw [Go.Sort.heap_grow_old _ _ (by simpa using hk)]
  have : g ≠ k := fun e => hne (by rw [e])
  simp [Go.Sort.putRow, Go.Sort.mapBlock, Go.Sort.ahead, Array.getElem?_modify, this]
theorem own_sorted {w : World} {base g cap n m : Nat} {os : Array Obj} {xs : List Value} {d : Array It} (h : w.ownsRow base 52 3 (.slice (some ⟨g, 0, none⟩) n cap) n xs) (hd : d.size = n) :
    (sortWorldK encI 3 w g 0 m d os).ownsRow base 52 3 (.slice (some ⟨g, 0, none⟩) n cap) n (flat d.toList) := by
  refine ⟨by rw [flat_len]; simp [hd], ?_⟩
  rcases h.2 with ⟨h', _⟩ | ⟨g', cap', cur, h', hb, hg, hnc, hcm, hcs, htake⟩
  · simp at h'
  · simp only [Value.slice.injEq, Option.some.injEq, Addr.mk.injEq, and_true, true_and] at h'
    obtain ⟨rfl, rfl⟩ := h'
    refine .inr ⟨g, cap, _, rfl, hb, heap_sortedI d hg, hnc, hcm, by simpa [Go.Sort.putCells] using hcs, ?_⟩
    have h3 : n * 3 = (Go.Sort.flatK encI 3 d).size := by rw [Go.Sort.size_flatK, hd]
    have h4 : n * 3 ≤ cap * 3 := Nat.mul_le_mul_right 3 hnc
    rw [h3, take_putCellsI _ _ (by omega), flatK_flat]
theorem holds_own {w : World} {base g cap n : Nat} {l : List It} (h : Its w base (some ⟨g, 0, none⟩) n cap l) : Go.Sort.HoldsK encI 3 w g 0 l.toArray := by
  intro j hj
  rw [Go.Sort.size_flatK] at hj
  have hf := h.own.frozenAt j
  have hc := h.own.cells (g := g) rfl
  rw [Nat.zero_add]
  refine ⟨?_, hf⟩
  have h1 : j < (Go.Sort.flatK encI 3 l.toArray).size := by rw [Go.Sort.size_flatK]; exact hj
  have h2 := hc j ((Go.Sort.flatK encI 3 l.toArray)[j]!) (by
    have := flatK_flat l.toArray
    simp only at this
    rw [← this, Array.getElem?_toList, Array.getElem?_eq_getElem h1, getElem!_pos _ j h1])
  rw [addr_add, Nat.zero_add] at h2
  exact h2
theorem told_of {l : List It} {d' : Array It} (hp : Go.Sort.PermIn 0 l.toArray.size l.toArray d') (hs : Go.Sort.SortedIn (ltOf cmpI) 0 l.toArray.size d') : Told l d'.toList ∧ d'.size = l.length := by
  obtain ⟨h1, _, h3⟩ := hp
  have h1' : d'.size = l.length := by simpa using h1
  refine ⟨⟨?_, ?_⟩, h1'⟩
  · have e1 : d'.extract 0 l.toArray.size = d' := by rw [← h1]; simp
    have e2 : l.toArray.extract 0 l.toArray.size = l.toArray := by simp
    rw [e1, e2] at h3
    simpa using h3
  · rw [List.pairwise_iff_getElem]
    intro i j hi hj hij
    have := hs i j (Nat.zero_le _) hij (by simp at hj ⊢; omega)
    simp only [Array.length_toList] at hi hj
    unfold ltOf at this
    rw [cmpI_lt, getElem!_pos d' i hi, getElem!_pos d' j hj] at this
    simpa using this
theorem swoI : Go.Sort.SWO (ltOf cmpI) where
  irrefl x := by unfold ltOf; rw [cmpI_lt]; exact ahead_irr x
  trans x y z h1 h2 := by unfold ltOf at *; rw [cmpI_lt] at *; exact ahead_tr x y z h1 h2
  ntrans x y z h1 h2 := by unfold ltOf at *; rw [cmpI_lt] at *; exact ahead_nt x y z h1 h2
end Go.Proofs.YtapiehddcdnadaaDoor
