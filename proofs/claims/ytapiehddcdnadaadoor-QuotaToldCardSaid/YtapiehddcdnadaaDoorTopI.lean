/- Items. -/
import Derived.Test.YtapiehddcdnadaaDoorTopH
namespace Go.Proofs.YtapiehddcdnadaaDoor
open Go.RowKit
set_option linter.unusedVariables false
set_option linter.unusedSimpArgs false

theorem flat_one (l : List It) : ∀ u ∈ flat l, u.oneCell' = true := by
  intro u hu
  unfold flat at hu
  obtain ⟨x, _, hx⟩ := List.mem_flatMap.1 hu
  simp only [encI, List.mem_cons, List.not_mem_nil, or_false] at hx
  rcases hx with rfl | rfl | rfl <;> rfl
theorem Its.cells {w : World} {base g n c : Nat} {l : List It} (h : Its w base (some ⟨g, 0, none⟩) n c l) : ∀ j u, (flat l)[j]? = some u → w.cell? ⟨g, 0 + j, none⟩ = some u := by
  intro j u hu
  have := h.own.cells (g := g) rfl j u hu
  rwa [addr_add] at this

theorem clone_call (base : Nat) (A : Option Addr) (n c : Nat) (l : List It) (w : World) (T : Its w base A n c l) (hn16 : n ≤ 16) :
    Calls Tryd.prog 44 #[.slice A n c] w fun e w' => ∃ A' c', e = .returned (.slice A' n c') ∧ Its w' w.heap.size A' n c' l ∧ Below w.heap.size w w' := by
  have hln := T.len
  rcases T.own.2 with ⟨h, h0⟩ | ⟨g, cap, cur, h, hb, hg, hnc, hcm, hcs, ht⟩
  · injection h with h1 h2 h3
    subst h1 h2 h3
    have hcon := AnyE.slices_Clone_nil Tryd.cloneIt 0 0 w
    change Calls Tryd.prog 44 _ _ _ at hcon
    refine hcon.mono ?_
    rintro e w1 ⟨rfl, rfl⟩
    have hl : l = [] := List.eq_nil_of_length_eq_zero hln
    subst hl
    exact ⟨none, 0, rfl, ⟨World.ownsRow_nil _ _ _ 3⟩, Below.refl _ _⟩
  · injection h with h1 h2 h3
    subst h1
    obtain ⟨i0, hi0, hz0, hz1, hz2⟩ := info_parts info_item
    have hcon := AnyE.slices_Clone Tryd.cloneIt i0 _ 3 32 hi0 hz0 hz1 hz2 rfl (by omega) Tryd.sizeOf52 g 0 n c (flat l) w (by rw [flat_len, hln]) (by simp only [maxLen]; omega) (by omega) T.cells (flat_one l)
    change Calls Tryd.prog 44 _ _ _ at hcon
    refine hcon.mono ?_
    rintro e w1 ⟨v', rfl, hown, hnil, hB⟩
    have hown' : w1.ownsRow w.heap.size 52 3 v' n (flat l) := hown
    obtain ⟨A', c', rfl⟩ := own_form hown'
    rcases hown'.2 with ⟨h, h0⟩ | ⟨g2, cap2, cur2, h, hr⟩
    · exact absurd h hnil
    · simp only [Value.slice.injEq] at h
      obtain ⟨h1, h2, h3⟩ := h
      subst h1 h3
      exact ⟨_, _, rfl, ⟨hown'⟩, hB⟩

theorem cmpLays (blk size : Nat) (w : World) : CmpLays Tryd.prog 46 #[] encI 3 cmpI blk 0 size w :=
  fun _ _ _ _ x y => order_call x y _

theorem sort_call (base : Nat) (A : Option Addr) (n c : Nat) (l : List It) (w : World) (T : Its w base A n c l) (hn16 : n ≤ 16) :
    Calls Tryd.prog 45 #[.slice A n c, .func (.func 46) #[] #[]] w fun e w' => e = .returned (.tuple #[]) ∧ ∃ s, Told l s ∧ Its w' base A n c s ∧ w.grownBy w' (Value.ownBlock (.slice A n c)) := by
  have hln := T.len
  by_cases h0 : n = 0
  · subst h0
    have hcon := AnyF.slices_SortFunc_none Tryd.sortIt A c (.func (.func 46) #[] #[]) w
    change Calls Tryd.prog 45 _ _ _ at hcon
    refine hcon.mono ?_
    rintro e w1 ⟨rfl, rfl⟩
    have hl : l = [] := List.eq_nil_of_length_eq_zero hln
    subst hl
    exact ⟨rfl, [], Told.nil, T, World.grownBy.refl _ _⟩
  · obtain ⟨r, rfl, hr0, hrlt, hrc, hcell⟩ := T.row (by omega)
    have eg : ∀ args w, (callFunc 46 args).run Tryd.prog w = .ok (.enter 46 args) w := enters_of Tryd.func46 (by kernel_rfl) rfl
    have hcon := AnyQ.slices_SortFunc Tryd.sortIt 3 Tryd.isAgg52 Tryd.sizeOf52 encI (fun _ => rfl) (fun x v hv => by simp [encI] at hv; rcases hv with rfl | rfl | rfl <;> rfl) cmpI swoI 46 #[] r 0 c l.toArray w eg (cmpLays r _ w) (holds_own T) hrlt (by simp; omega)
    change Calls Tryd.prog 45 _ _ _ at hcon
    have hsz : (l.toArray.size : Int) = n := by simp [hln]
    have hsz2 : l.toArray.size = n := by simp [hln]
    rw [hsz2] at hcon
    refine hcon.mono ?_
    rintro e w1 ⟨rfl, d', m, os, hp, hs, rfl⟩
    rw [← hsz2] at hp hs
    obtain ⟨ht, hd⟩ := told_of hp hs
    exact ⟨rfl, d'.toList, ht, ⟨own_sorted T.own (by omega)⟩, grownBy_sortedI d'⟩

set_option maxRecDepth 100000 in
theorem items_call {base g room seen : Nat} {A : Option Addr} {n c : Nat} {l : List It} {w : World} (T : Tp w base g room seen A n c l) :
    Calls Tryd.prog 32 #[.pointer (some ⟨g, 0, none⟩)] w fun e w' => ∃ A' c' s, e = .returned (.slice A' n c') ∧ Told l s ∧ Its w' w.heap.size A' n c' s ∧ Below w.heap.size w w' := by
  have c0 : w.cell? ⟨g, 0, none⟩ = some (.slice A n c) := T.blk.cellAt 0 rfl
  have hlt := T.blk.lt
  have hn16 : n ≤ 16 := by have := T.ln; have := T.rm; omega
  go_enter Tryd.func32, Tryd.ntmps32
  go_wp2_with (first
    | (go_at_call 44
       refine (clone_call base A n c l w T.its hn16).mono ?_
       rintro e w1 ⟨A', c', rfl, hI, hB⟩)
    | (go_at_call 45
       refine (sort_call w.heap.size A' n c' l w1 hI hn16).mono ?_
       rintro e w2 ⟨rfl, s, hT, hI2, hG⟩))
  go_ret
  exact ⟨A', c', s, rfl, hT, hI2, bgrown hB hG (fun k hk => (hI.own.lt k hk).1)⟩
end Go.Proofs.YtapiehddcdnadaaDoor
