/- The plain laws of the sketch: additions commute, are absorbed, merge; one alone is estimated as one. Numbers and lists alone. -/
import Derived.Test.YtapiehddcdnadaaDoorHllG
namespace Go.Proofs.YtapiehddcdnadaaDoor
open Go.RowKit
set_option linter.unusedVariables false
set_option linter.unusedSimpArgs false

theorem getD_set (r : List Int) (k j : Nat) (v : Int) (hk : k < r.length) : (r.set k v).getD j 0 = if j = k then v else r.getD j 0 := by
  simp only [List.getD_eq_getElem?_getD, List.getElem?_set]
  by_cases h : k = j
  · subst h; simp [hk]
  · rw [if_neg h, if_neg (fun e => h e.symm)]

theorem ext_getD {r q : List Int} (hl : r.length = q.length) (h : ∀ j, j < r.length → r.getD j 0 = q.getD j 0) : r = q := by
  refine List.ext_getElem hl (fun j h1 h2 => ?_)
  have := h j h1
  rwa [List.getD_eq_getElem?_getD, List.getD_eq_getElem?_getD, List.getElem?_eq_getElem h1, List.getElem?_eq_getElem h2] at this

theorem addR_getD (b : Nat) (r : List Int) (h j : Nat) (hr : r.length = 2 ^ b) : (addR b r h).getD j 0 = if j = h % 2 ^ b then max (r.getD j 0) (rk26 h b) else r.getD j 0 := by
  unfold addR
  rw [getD_set _ _ _ _ (by rw [hr]; exact Nat.mod_lt _ (Nat.two_pow_pos b))]
  by_cases e : j = h % 2 ^ b
  · rw [if_pos e, if_pos e, e]
  · rw [if_neg e, if_neg e]

theorem addR_comm (b : Nat) (r : List Int) (x y : Nat) (hr : r.length = 2 ^ b) : addR b (addR b r x) y = addR b (addR b r y) x := by
  refine ext_getD (by simp [addR_len]) (fun j _ => ?_)
  rw [addR_getD b _ y j (by rw [addR_len, hr]), addR_getD b r x j hr, addR_getD b _ x j (by rw [addR_len, hr]), addR_getD b r y j hr]
  by_cases h1 : j = y % 2 ^ b <;> by_cases h2 : j = x % 2 ^ b <;> simp only [h1, h2, if_true, if_false] <;> (try split) <;> omega

theorem addR_twice (b : Nat) (r : List Int) (x : Nat) (hr : r.length = 2 ^ b) : addR b (addR b r x) x = addR b r x := by
  refine ext_getD (by simp [addR_len]) (fun j _ => ?_)
  rw [addR_getD b _ x j (by rw [addR_len, hr]), addR_getD b r x j hr]
  split <;> omega

theorem feed_len (b : Nat) (xs : List Int) : ∀ r, (feed b r xs).length = r.length := by
  induction xs with
  | nil => intro r; rfl
  | cons x xs ih => intro r; show (feed b (addR b r x.toNat) xs).length = _; rw [ih, addR_len]
theorem feed_cons (b : Nat) (r : List Int) (x : Int) (xs : List Int) : feed b r (x :: xs) = feed b (addR b r x.toNat) xs := rfl
theorem feed_append (b : Nat) (r xs ys : List Int) : feed b r (xs ++ ys) = feed b (feed b r xs) ys := by simp [feed]
theorem feed_add (b : Nat) (y : Nat) (xs : List Int) : ∀ r, r.length = 2 ^ b → feed b (addR b r y) xs = addR b (feed b r xs) y := by
  induction xs with
  | nil => intro r _; rfl
  | cons x xs ih =>
    intro r hr
    rw [feed_cons, feed_cons, addR_comm b r y _ hr, ih _ (by rw [addR_len, hr])]
theorem feed_comm (b : Nat) (ys xs : List Int) : ∀ r, r.length = 2 ^ b → feed b (feed b r ys) xs = feed b (feed b r xs) ys := by
  induction ys with
  | nil => intro r _; rfl
  | cons y ys ih =>
    intro r hr
    rw [feed_cons, ih _ (by rw [addR_len, hr]), feed_add b _ xs r hr, feed_cons]
theorem feed_mem (b : Nat) (x : Int) (xs : List Int) (r : List Int) (hr : r.length = 2 ^ b) (hx : x ∈ xs) : addR b (feed b r xs) x.toNat = feed b r xs := by
  induction xs generalizing r with
  | nil => cases hx
  | cons y ys ih =>
    rw [feed_cons]
    rcases List.mem_cons.1 hx with h | h
    · subst h
      rw [feed_add b _ ys r hr, addR_twice b _ _ (by rw [feed_len, hr])]
    · exact ih _ (by rw [addR_len, hr]) h
theorem feed_absorb (b : Nat) (xs : List Int) (r : List Int) (hr : r.length = 2 ^ b) : ∀ ys : List Int, (∀ y ∈ ys, y ∈ xs) → feed b (feed b r xs) ys = feed b r xs
  | [], _ => rfl
  | y :: ys, h => by
    rw [feed_cons, feed_mem b y xs r hr (h y List.mem_cons_self)]
    exact feed_absorb b xs r hr ys (fun z hz => h z (List.mem_cons_of_mem _ hz))

theorem zeros_len (b : Nat) : (zeros b).length = 2 ^ b := by simp [zeros]
theorem zeros_get (b j : Nat) : (zeros b).getD j 0 = 0 := by
  simp only [zeros, List.getD_eq_getElem?_getD, List.getElem?_replicate]
  split <;> rfl

/-- In whatever order, and however often. -/
theorem order_law (b : Nat) (xs ys : List Int) (h : ∀ y ∈ ys, y ∈ xs) : feed b (feed b (zeros b) ys) xs = feed b (zeros b) xs := by
  rw [feed_comm b ys xs _ (zeros_len b)]
  exact feed_absorb b xs _ (zeros_len b) ys h

theorem grows_law (b : Nat) (r : List Int) (h j : Nat) (hr : r.length = 2 ^ b) : r.getD j 0 ≤ (addR b r h).getD j 0 := by
  rw [addR_getD b r h j hr]
  split <;> omega

theorem zip_get (r q : List Int) (j : Nat) (hl : r.length = q.length) : (List.zipWith max r q).getD j 0 = max (r.getD j 0) (q.getD j 0) := by
  simp only [List.getD_eq_getElem?_getD, List.getElem?_zipWith]
  rcases Nat.lt_or_ge j r.length with h | h
  · rw [List.getElem?_eq_getElem h, List.getElem?_eq_getElem (by omega)]; rfl
  · rw [List.getElem?_eq_none h, List.getElem?_eq_none (by omega)]; rfl

theorem zip_add (b : Nat) (r q : List Int) (h : Nat) (hr : r.length = 2 ^ b) (hq : q.length = 2 ^ b) : addR b (List.zipWith max r q) h = List.zipWith max r (addR b q h) := by
  refine ext_getD (by simp [addR_len]) (fun j _ => ?_)
  rw [addR_getD b _ h j (by simp [hr, hq]), zip_get r q j (by omega), zip_get r _ j (by rw [addR_len]; omega), addR_getD b q h j hq]
  split <;> omega
theorem zip_feed (b : Nat) (xs : List Int) : ∀ r q, r.length = 2 ^ b → q.length = 2 ^ b → feed b (List.zipWith max r q) xs = List.zipWith max r (feed b q xs) := by
  induction xs with
  | nil => intro r q _ _; rfl
  | cons x xs ih =>
    intro r q hr hq
    rw [feed_cons, feed_cons, zip_add b r q _ hr hq, ih r _ hr (by rw [addR_len, hq])]
theorem zip_zeros (b : Nat) (r : List Int) (hr : r.length = 2 ^ b) (h0 : ∀ j, 0 ≤ r.getD j 0) : List.zipWith max r (zeros b) = r := by
  refine ext_getD (by simp [hr, zeros_len]) (fun j _ => ?_)
  rw [zip_get r _ j (by rw [hr, zeros_len]), zeros_get]
  have := h0 j
  omega
theorem feed_nonneg (b : Nat) (xs : List Int) : ∀ r, r.length = 2 ^ b → (∀ j, 0 ≤ r.getD j 0) → ∀ j, 0 ≤ (feed b r xs).getD j 0 := by
  induction xs with
  | nil => intro r _ h; exact h
  | cons x xs ih =>
    intro r hr h
    refine ih _ (by rw [addR_len, hr]) (fun j => ?_)
    show 0 ≤ (addR b r x.toNat).getD j 0
    have := grows_law b r x.toNat j hr
    have := h j
    omega
/-- Merged, two have what all of both would have made. -/
theorem merge_law (b : Nat) (xs ys : List Int) : List.zipWith max (feed b (zeros b) xs) (feed b (zeros b) ys) = feed b (zeros b) (xs ++ ys) := by
  have h1 : (feed b (zeros b) xs).length = 2 ^ b := by rw [feed_len, zeros_len]
  rw [← zip_feed b ys _ _ h1 (zeros_len b), zip_zeros b _ h1 (feed_nonneg b xs _ (zeros_len b) (fun j => by rw [zeros_get]; exact Int.le_refl 0)), feed_append]

/-- How many registers are other than 0. -/
def manyOf (r : List Int) : Nat := r.countP fun x => decide (0 < x)
theorem many_set (r : List Int) (k : Nat) (v : Int) : manyOf (r.set k v) ≤ manyOf r + 1 := by
  unfold manyOf
  rcases Nat.lt_or_ge k r.length with hk | hk
  · rw [List.countP_set hk]
    have h1 : (if decide (0 < r[k]) = true then 1 else 0) ≤ 1 := by split <;> omega
    have h2 : (if decide (0 < v) = true then 1 else 0) ≤ 1 := by split <;> omega
    omega
  · rw [List.set_eq_of_length_le hk]; omega
theorem many_feed (b : Nat) (xs : List Int) : ∀ r, manyOf (feed b r xs) ≤ manyOf r + xs.length := by
  induction xs with
  | nil => intro r; simp [feed]
  | cons x xs ih =>
    intro r
    rw [feed_cons]
    have h1 := ih (addR b r x.toNat)
    have h2 : manyOf (addR b r x.toNat) ≤ manyOf r + 1 := many_set _ _ _
    simp only [List.length_cons]
    omega
theorem many_zeros (b : Nat) : manyOf (zeros b) = 0 := by
  unfold manyOf zeros
  rw [List.countP_replicate]
  simp

/-- One register alone. -/
theorem one_sum (m k : Nat) (v : Int) (hk : k < m) : sumTo ((List.replicate m 0).set k v) m = ((m : Int) - 1) * 67108864 + (2 : Int) ^ (26 - v.toNat) := by
  unfold sumTo
  rw [List.take_of_length_le (by simp), List.set_eq_take_append_cons_drop, if_pos (by simpa using hk)]
  simp only [List.take_replicate, List.drop_replicate, List.map_append, List.map_cons, List.map_replicate, List.sum_append, List.sum_cons, List.sum_replicate_int]
  have e : (2 : Int) ^ (26 - (0 : Int).toNat) = 67108864 := by decide
  rw [e]
  have e2 : (min k m : Nat) = k := by omega
  rw [e2]
  have e3 : ((m - (k + 1) : Nat) : Int) = (m : Int) - k - 1 := by omega
  rw [e3]
  generalize (2 : Int) ^ (26 - v.toNat) = p
  omega
theorem one_zero (m k : Nat) (v : Int) (hk : k < m) (hv : v ≠ 0) : zeroTo ((List.replicate m 0).set k v) m = (m : Int) - 1 := by
  unfold zeroTo
  rw [List.take_of_length_le (by simp), List.countP_set (by simpa using hk), List.countP_replicate]
  simp [hv]
  omega
/-- The estimate of one alone, told by its bits and its rank: a check of 182 cases. -/
def oneOk (b v : Nat) : Bool := decide (((alphaN b * 2 ^ b * 2 ^ b : Nat) : Int) * 67108864 / (10000 * ((((2 ^ b : Nat) : Int) - 1) * 67108864 + (2 : Int) ^ (26 - v))) ≤ 5 * ((2 ^ b : Nat) : Int) / 2)
theorem oneOk_all : ∀ b, b < 7 → ∀ v, v < 27 → oneOk (b + 4) v = true := by decide +kernel
theorem one_est (b k : Nat) (v : Int) (hb1 : 4 ≤ b) (hb2 : b ≤ 10) (hk : k < 2 ^ b) (h0 : 1 ≤ v) (h1 : v ≤ 26) : estI b ((zeros b).set k v) = 1 := by
  have hp : 2 ^ 4 ≤ 2 ^ b := Nat.pow_le_pow_right (by omega) hb1
  unfold estI zeros
  rw [one_sum _ k v hk, one_zero _ k v hk (by omega)]
  have hok := oneOk_all (b - 4) (by omega) v.toNat (by omega)
  rw [show b - 4 + 4 = b by omega] at hok
  have h2 := of_decide_eq_true hok
  rw [if_neg (by simp only [rawI, not_or]; omega)]
  have e1 : (((2 ^ b : Nat) : Int) - 1).toNat = 2 ^ b - 1 := by omega
  rw [e1, show 2 ^ b - (2 ^ b - 1) = 1 by omega]
  simp only [rareTo, Nat.zero_add]
  rw [show 2 ^ b - 1 + 0 + 1 = 2 ^ b by omega, Nat.mul_comm, Nat.mul_div_cancel _ (by omega)]
  rfl
theorem none_est (b : Nat) (h : b = 4 ∨ b = 5 ∨ b = 6 ∨ b = 7 ∨ b = 8 ∨ b = 9 ∨ b = 10) : estI b (zeros b) = 0 := by
  rcases h with rfl | rfl | rfl | rfl | rfl | rfl | rfl <;> decide +kernel
theorem feed_one (b : Nat) (x : Int) (h : b = 4 ∨ b = 5 ∨ b = 6 ∨ b = 7 ∨ b = 8 ∨ b = 9 ∨ b = 10) : estI b (feed b (zeros b) [x]) = 1 := by
  show estI b (addR b (zeros b) x.toNat) = 1
  unfold addR
  rw [zeros_get]
  have := rk26_bd x.toNat b
  exact one_est b _ _ (by omega) (by omega) (Nat.mod_lt _ (Nat.two_pow_pos b)) (by omega) (by omega)
end Go.Proofs.YtapiehddcdnadaaDoor
