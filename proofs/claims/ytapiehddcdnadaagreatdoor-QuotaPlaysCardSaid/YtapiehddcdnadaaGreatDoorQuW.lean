/- A wish: the policy that it makes of its numbers, when it is its own. -/
import Derived.Test.YtapiehddcdnadaaGreatDoorQuP
import Derived.StillTailTactics
import Derived.Deep.CutBlock
import Derived.Deep.CutRange
import Derived.OpenShut
namespace Go.Proofs.YtapiehddcdnadaaGreatDoor
open Go.RowKit Go.WideShapes
set_option linter.unusedVariables false
set_option linter.unusedSimpArgs false

def nI (xs : List Int) (i : Int) : Int := xs.getD i.toNat 0
theorem wishn_call (g : Nat) (i : Int) (a : Option Addr) (n c : Nat) (xs : List Int) (w : World) (h0 : 0 ≤ i) (hn : n ≤ 9223372036854775807) (hc : w.cell? ⟨g, 12, none⟩ = some (.slice a n c)) (hx : Ints .u16 w a n xs) : Calls Tryz.prog 27 #[.int .i64 i, .pointer (some ⟨g, 0, none⟩)] w fun e w' => e = .returned (.int .i64 (nI xs i)) ∧ w = w' := by
  have HV : Hid (nI xs i = xs.getD i.toNat 0) := Lib.hid rfl
  generalize nI xs i = v at *
  have hg := cell_lt hc
  replace hg : g < w.heap.size := hg
  have hlen := hx.len
  by_cases hlt : i < n
  · obtain ⟨k, rfl⟩ : ∃ k : Nat, i = k := ⟨i.toNat, by omega⟩
    have hk : k < n := by omega
    obtain ⟨b, off, rfl, hb, hcell⟩ := hx.at_ (by omega)
    have x0 := hcell k hk
    have HV2 : Hid (v = xs.getD k 0) := Lib.hid (by rw [HV.out, Int.toNat_natCast])
    have hw : (Lit.int .u16 (xs.getD k 0)).wf = true := hx.wf _ (by rw [List.getD_eq_getElem?_getD, List.getElem?_eq_getElem (by omega)]; exact List.getElem_mem _)
    have hbd := bounds_u16 hw
    clear hw HV hcell hlen
    generalize xs.getD k 0 = y at *
    go_enter Tryz.func27, Tryz.ntmps27
    go_wp2_with fail
    go_ret
    exact ⟨ret_int HV2.out.symm, rfl⟩
  · have HV2 : Hid (v = 0) := Lib.hid (by rw [HV.out, List.getD_eq_getElem?_getD, List.getElem?_eq_none (by omega)]; rfl)
    clear HV hlen
    go_enter Tryz.func27, Tryz.ntmps27
    go_wp2_with fail
    go_ret
    exact ⟨ret_int HV2.out.symm, rfl⟩
theorem nI_bd {w : World} {a : Option Addr} {n : Nat} {xs : List Int} (hx : Ints .u16 w a n xs) (i : Int) : 0 ≤ nI xs i ∧ nI xs i ≤ 65535 := by
  unfold nI
  rw [List.getD_eq_getElem?_getD]
  rcases Nat.lt_or_ge i.toNat xs.length with h | h
  · rw [List.getElem?_eq_getElem h]
    exact bounds_u16 (hx.wf _ (List.getElem_mem _))
  · rw [List.getElem?_eq_none h]
    simp
def wishP (xs : List Int) : PolN := ⟨1 + nI xs 0 % 20, nI xs 9 % (nI xs 1 % 40 + 1), nI xs 1 % 40, 1 + nI xs 2 % 16, 4 + nI xs 3 % 7, nI xs 4 % 5, 1 + nI xs 5 % 4, 1 + nI xs 6 % 40, nI xs 7 % 30, nI xs 8 % 10⟩
def tiersTo (xs : List Int) : Nat → List Int
  | 0 => [1 + nI xs 10 % 12]
  | k + 1 => tiersTo xs k ++ [(tiersTo xs k).getD k 0 * (2 + nI xs (12 + (k : Int)) % 4)]
def wishT (xs : List Int) : List Int := tiersTo xs (nI xs 11 % 3).toNat
theorem tiers_len (xs : List Int) : ∀ k, (tiersTo xs k).length = k + 1
  | 0 => rfl
  | k + 1 => by unfold tiersTo; rw [List.length_append, tiers_len xs k]; rfl
theorem wish_num (xs : List Int) (hb : ∀ i, 0 ≤ nI xs i ∧ nI xs i ≤ 65535) : (List.range 10).all (numOk (wishP xs)) = true := by
  have h0 := hb 0
  have h1 := hb 1
  have h2 := hb 2
  have h3 := hb 3
  have h4 := hb 4
  have h5 := hb 5
  have h6 := hb 6
  have h7 := hb 7
  have h8 := hb 8
  have h9 := hb 9
  have hm : 0 ≤ nI xs 9 % (nI xs 1 % 40 + 1) ∧ nI xs 9 % (nI xs 1 % 40 + 1) < nI xs 1 % 40 + 1 := ⟨Int.emod_nonneg _ (by omega), Int.emod_lt_of_pos _ (by omega)⟩
  have e : List.range 10 = [0, 1, 2, 3, 4, 5, 6, 7, 8, 9] := rfl
  rw [e]
  simp only [List.all_cons, List.all_nil, Bool.and_true, Bool.and_eq_true]
  refine ⟨?_, ?_, ?_, ?_, ?_, ?_, ?_, ?_, ?_, ?_⟩
  all_goals
    simp only [numOk, leastL, mostL, PolN.list, wishP, Bool.and_eq_true, decide_eq_true_eq, List.getD_eq_getElem?_getD, List.getElem?_cons_zero, List.getElem?_cons_succ, Option.getD_some]
    omega
theorem mul_mod_self (a b : Int) : (a * b).tmod a = 0 := by rw [Int.mul_tmod_right]
theorem wish_tiers (xs : List Int) (hb : ∀ i, 0 ≤ nI xs i ∧ nI xs i ≤ 65535) : (List.range (wishT xs).length).all (tierOk (wishT xs)) = true ∧ 1 ≤ (wishT xs).length ∧ (wishT xs).length ≤ 3 := by
  have h10 := hb 10
  have h11 := hb 11
  have h12 := hb (12 + ((0 : Nat) : Int))
  have h13 := hb (12 + ((1 : Nat) : Int))
  have hc : (nI xs 11 % 3).toNat = 0 ∨ (nI xs 11 % 3).toNat = 1 ∨ (nI xs 11 % 3).toNat = 2 := by omega
  unfold wishT
  generalize hA : 1 + nI xs 10 % 12 = A
  generalize hB : 2 + nI xs (12 + ((0 : Nat) : Int)) % 4 = B
  generalize hC : 2 + nI xs (12 + ((1 : Nat) : Int)) % 4 = C
  have a1 : 1 ≤ A ∧ A ≤ 12 := by omega
  have b1 : B = 2 ∨ B = 3 ∨ B = 4 ∨ B = 5 := by omega
  have c1 : C = 2 ∨ C = 3 ∨ C = 4 ∨ C = 5 := by omega
  have t0 : tiersTo xs 0 = [A] := by rw [← hA]; rfl
  have t1 : tiersTo xs 1 = [A, A * B] := by rw [← hA, ← hB]; rfl
  have t2 : tiersTo xs 2 = [A, A * B, A * B * C] := by rw [← hA, ← hB, ← hC]; rfl
  have m1 := mul_mod_self A B
  have m2 := mul_mod_self (A * B) C
  clear hA hB hC h10 h11 h12 h13 hb
  have k1 : A < A * B ∧ A * B ≤ 60 := by rcases b1 with rfl | rfl | rfl | rfl <;> omega
  have k2 : A * B < A * B * C ∧ A * B * C ≤ 300 := by
    generalize A * B = D at *
    rcases c1 with rfl | rfl | rfl | rfl <;> omega
  rcases hc with h | h | h
  · rw [h, t0]
    simp [List.range_succ, tierOk]
    omega
  · rw [h, t1]
    simp [List.range_succ, tierOk, m1]
    omega
  · rw [h, t2]
    simp [List.range_succ, tierOk, m1, m2]
    omega
theorem wish_right (xs : List Int) (hb : ∀ i, 0 ≤ nI xs i ∧ nI xs i ≤ 65535) : rightP (wishP xs) (wishT xs) = true := by
  have h := wish_tiers xs hb
  unfold rightP
  rw [wish_num xs hb, h.1]
  simp [h.2]
theorem tier_bd (xs : List Int) (hb : ∀ i, 0 ≤ nI xs i ∧ nI xs i ≤ 65535) : ∀ k, k ≤ 2 → ∀ x ∈ tiersTo xs k, 1 ≤ x ∧ x ≤ 300 := by
  intro k hk x hx
  have h10 := hb 10
  have h12 := hb (12 + ((0 : Nat) : Int))
  have h13 := hb (12 + ((1 : Nat) : Int))
  generalize hA : 1 + nI xs 10 % 12 = A at *
  generalize hB : 2 + nI xs (12 + ((0 : Nat) : Int)) % 4 = B at *
  generalize hC : 2 + nI xs (12 + ((1 : Nat) : Int)) % 4 = C at *
  have a1 : 1 ≤ A ∧ A ≤ 12 := by omega
  have b1 : B = 2 ∨ B = 3 ∨ B = 4 ∨ B = 5 := by omega
  have c1 : C = 2 ∨ C = 3 ∨ C = 4 ∨ C = 5 := by omega
  have t0 : tiersTo xs 0 = [A] := by rw [← hA]; rfl
  have t1 : tiersTo xs 1 = [A, A * B] := by rw [← hA, ← hB]; rfl
  have t2 : tiersTo xs 2 = [A, A * B, A * B * C] := by rw [← hA, ← hB, ← hC]; rfl
  clear hA hB hC h10 h12 h13 hb
  have k1 : A < A * B ∧ A * B ≤ 60 := by rcases b1 with rfl | rfl | rfl | rfl <;> omega
  have k2 : A * B < A * B * C ∧ A * B * C ≤ 300 := by
    generalize A * B = D at *
    rcases c1 with rfl | rfl | rfl | rfl <;> omega
  have hc : k = 0 ∨ k = 1 ∨ k = 2 := by omega
  rcases hc with rfl | rfl | rfl
  · rw [t0] at hx; simp at hx; omega
  · rw [t1] at hx; simp at hx; omega
  · rw [t2] at hx; simp at hx; omega
end Go.Proofs.YtapiehddcdnadaaGreatDoor
