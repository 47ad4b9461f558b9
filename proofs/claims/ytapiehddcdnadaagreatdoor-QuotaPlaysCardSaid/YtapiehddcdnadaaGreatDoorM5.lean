/- Of: any text of bytes is the sketch that has them, or none: a text of 16 to 1024 bytes, as many as a power of two, none above 26. The laws' helpers: examples answers true; fed makes the sketch of what was added. The plain laws of the sketch: additions commute, are absorbed, merge; one alone is estimated as one. Numbers and lists alone. The walk of HllRegisters: it returns true, whatever it is given; what lay in memory stays. The walk of HllWrong: it returns true, whatever it is given; what lay in memory stays. The document's own sketch in memory, and what its small functions do. -/
import Derived.Test.YtapiehddcdnadaaGreatDoorM2
import Derived.Test.YtapiehddcdnadaaGreatDoorShelf
import Derived.Lib.ConvBytes
import Derived.Test.YtapiehddcdnadaaGreatDoorM1
import Derived.Deep.DeepCutAuto
import Derived.Laws.MakeOwn
import Derived.Deep.OwnRows
namespace Go.Proofs.YtapiehddcdnadaaGreatDoor
open Go.RowKit
set_option linter.unusedVariables false
set_option linter.unusedSimpArgs false

/-- A text's bytes as numbers. -/
def bI (s : ByteArray) : List Int := s.data.toList.map fun c => (c.toNat : Int)
theorem bI_len (s : ByteArray) : (bI s).length = s.size := by rw [bI, List.length_map, Array.length_toList]; rfl
theorem bI_get (s : ByteArray) (k : Nat) (hk : k < s.size) : (bI s).getD k 0 = ((s.data.toList.getD k 0).toNat : Int) := by
  have h : k < s.data.toList.length := by rw [Array.length_toList]; exact hk
  simp [bI, List.getD_eq_getElem?_getD, List.getElem?_eq_getElem h]
theorem bI_bd (s : ByteArray) (k : Nat) : 0 ≤ (bI s).getD k 0 ∧ (bI s).getD k 0 ≤ 255 := by
  rw [List.getD_eq_getElem?_getD]
  rcases Nat.lt_or_ge k (bI s).length with hk | hk
  · rw [List.getElem?_eq_getElem hk]
    simp only [bI, List.getElem_map, Option.getD_some]
    have := (s.data.toList[k]'(by simpa [bI] using hk)).toNat_lt
    omega
  · rw [List.getElem?_eq_none hk]
    simp

/-- Is a text a sketch's? -/
def OkS (s : ByteArray) : Prop := (∃ b, 4 ≤ b ∧ b ≤ 10 ∧ s.size = 2 ^ b) ∧ ∀ x ∈ bI s, x ≤ 26
def OfPost (s : ByteArray) (w : World) (e : Ending) (w' : World) : Prop :=
  Below w.heap.size w w' ∧
    ((OkS s ∧ ∃ g b, e = .returned (.tuple #[.pointer (some ⟨g, 0, none⟩), .int .i64 0]) ∧ w.heap.size ≤ g ∧ Sk w' g b (bI s)) ∨
     (¬ OkS s ∧ e = .returned (.tuple #[.pointer none, .int .i64 2])))

theorem bitLen_pow (b : Nat) (h : b = 4 ∨ b = 5 ∨ b = 6 ∨ b = 7 ∨ b = 8 ∨ b = 9 ∨ b = 10) : Lib.bitLen (2 ^ b) = b + 1 := by
  rcases h with rfl | rfl | rfl | rfl | rfl | rfl | rfl <;> decide +kernel

theorem notOk_bits (s : ByteArray) (h : ((Lib.bitLen s.size : Nat) : Int) - 1 < 4 ∨ 10 < ((Lib.bitLen s.size : Nat) : Int) - 1) : ¬ OkS s := by
  rintro ⟨⟨b, h1, h2, h3⟩, _⟩
  have h4 := bitLen_pow b (by omega)
  rw [← h3] at h4
  omega
theorem notOk_len (s : ByteArray) (b : Nat) (h : Lib.bitLen s.size = b + 1) (hne : s.size ≠ 2 ^ b) : ¬ OkS s := by
  rintro ⟨⟨b', h1, h2, h3⟩, _⟩
  have h4 := bitLen_pow b' (by omega)
  rw [← h3] at h4
  obtain rfl : b' = b := by omega
  exact hne h3
theorem notOk_byte (s : ByteArray) (k : Nat) (hk : k < s.size) (h : 26 < (bI s).getD k 0) : ¬ OkS s := by
  rintro ⟨_, h2⟩
  have hl : k < (bI s).length := by rw [bI_len]; exact hk
  rw [List.getD_eq_getElem?_getD, List.getElem?_eq_getElem hl, Option.getD_some] at h
  have := h2 _ (List.getElem_mem hl)
  omega

/-- The registers when k bytes have been laid. -/
def partTo (l : List Int) (k : Nat) : List Int := l.take k ++ List.replicate (l.length - k) 0
theorem partTo_zero (l : List Int) : partTo l 0 = List.replicate l.length 0 := by simp [partTo]
theorem partTo_all (l : List Int) : partTo l l.length = l := by simp [partTo]
theorem partTo_get (l : List Int) (k : Nat) (hk : k < l.length) : (partTo l k).getD k 0 = 0 := by
  simp only [partTo, List.getD_eq_getElem?_getD]
  rw [List.getElem?_append_right (by simp; omega)]
  simp only [List.getElem?_replicate]
  split <;> rfl
theorem partTo_succ (l : List Int) (k : Nat) (v : Int) (hk : k < l.length) (hv : l.getD k 0 = v) : (partTo l k).set k v = partTo l (k + 1) := by
  simp only [partTo]
  have e : k - (l.take k).length = 0 := by simp; omega
  rw [List.set_append_right _ _ (by simp; omega), e, List.take_succ_eq_append_getElem hk]
  obtain ⟨m, hm⟩ : ∃ m, l.length - k = m + 1 := ⟨l.length - k - 1, by omega⟩
  have hm2 : l.length - (k + 1) = m := by omega
  rw [hm, hm2, List.replicate_succ, List.set_cons_zero]
  rw [List.getD_eq_getElem?_getD, List.getElem?_eq_getElem hk, Option.getD_some] at hv
  simp [hv]

theorem Of_bits (s : ByteArray) (w : World) (hs : s.size ≤ 9223372036854775807) (h : ((Lib.bitLen s.size : Nat) : Int) - 1 < 4 ∨ 10 < ((Lib.bitLen s.size : Nat) : Int) - 1) :
    Calls Tryz.prog 46 #[.string s] w (OfPost s w) := by
  have hno := notOk_bits s h
  have hl := Go.Proofs.Tryz.bits_Len (s.size : Int) w (by omega) (by omega)
  rw [Int.toNat_natCast] at hl
  have hL : Lib.bitLen s.size ≤ 64 := Lib.bitLen_le _ 64 (by omega) (by omega)
  have Hno := Lib.hid hno
  clear hno
  generalize Lib.bitLen s.size = L at *
  go_enter Tryz.func46, Tryz.ntmps46
  go_wp2_with fail
  refine hl.mono ?_
  clear hl
  rintro e w1 ⟨rfl, rfl⟩
  go_wp2_with fail
  refine (New_no _ _ h).mono ?_
  rintro e w2 ⟨rfl, hb⟩
  go_wp2_with fail
  go_ret2
  exact ⟨hb, .inr ⟨Hno.out, rfl⟩⟩

theorem Of_len (s : ByteArray) (b : Nat) (w : World) (hs : s.size ≤ 9223372036854775807) (hb : b = 4 ∨ b = 5 ∨ b = 6 ∨ b = 7 ∨ b = 8 ∨ b = 9 ∨ b = 10) (h : Lib.bitLen s.size = b + 1) (hne : s.size ≠ 2 ^ b) :
    Calls Tryz.prog 46 #[.string s] w (OfPost s w) := by
  have Hno := Lib.hid (notOk_len s b h hne)
  have hl := Go.Proofs.Tryz.bits_Len (s.size : Int) w (by omega) (by omega)
  rw [Int.toNat_natCast, h] at hl
  have hm : 2 ^ b ≤ 1024 := by have := Nat.pow_le_pow_right (n := 2) (by omega) (show b ≤ 10 by omega); simpa using this
  have hu := fun W r hS => used_any w.heap.size b r W hS
  have hnew := New_yes b w hb
  have hd1 : ((s.size : Int) == ((2 ^ b : Nat) : Int)) = false := by rw [beq_eq_false_iff_ne]; omega
  have hd2 : ((s.size : Int) != ((2 ^ b : Nat) : Int)) = true := by rw [bne_iff_ne]; omega
  have e1 : (((b + 1 : Nat) : Int) - 1) = b := by omega
  have HU := Lib.hid hu
  have HN := Lib.hid hnew
  clear h hu hnew
  generalize 2 ^ b = m at *
  go_enter Tryz.func46, Tryz.ntmps46
  go_wp2_with fail
  refine hl.mono ?_
  clear hl
  rintro e w1 ⟨rfl, rfl⟩
  go_wp2_with fail
  refine (HN.out).mono ?_
  rintro e w2 ⟨rfl, hS, hb2⟩
  go_wp2_with fail
  refine (HU.out _ _ hS).mono ?_
  rintro e w3 ⟨rfl, rfl⟩
  go_wp2_with fail
  go_ret2
  exact ⟨hb2, .inr ⟨Hno.out, rfl⟩⟩

set_option maxRecDepth 100000 in
set_option maxHeartbeats 1000000 in
theorem Of_loop (s : ByteArray) (b : Nat) (w : World) (hb : b = 4 ∨ b = 5 ∨ b = 6 ∨ b = 7 ∨ b = 8 ∨ b = 9 ∨ b = 10) (hsz : s.size = 2 ^ b) :
    Calls Tryz.prog 46 #[.string s] w (OfPost s w) := by
  have h := bitLen_pow b hb
  rw [← hsz] at h
  have hm : 2 ^ b ≤ 1024 := by have := Nat.pow_le_pow_right (n := 2) (by omega) (show b ≤ 10 by omega); simpa using this
  have hl := Go.Proofs.Tryz.bits_Len (s.size : Int) w (by omega) (by omega)
  rw [Int.toNat_natCast, h] at hl
  have hu := fun W r hS => used_any w.heap.size b r W hS
  have hnew := New_yes b w hb
  have hcv := fun W => Lib.run_convert_string_bytes (P := Tryz.prog) W 9 68 5 s Tryz.underlying9 Tryz.underlying68 Tryz.underlying5
  rw [← hsz] at hu hm hnew
  have hd1 : ((s.size : Int) == (s.size : Int)) = true := by simp
  have hd2 : ((s.size : Int) != (s.size : Int)) = false := by simp
  have HU := Lib.hid hu
  have HN := Lib.hid hnew
  have HSZ := Lib.hid hsz
  clear h hu hnew hsz
  go_enter Tryz.func46, Tryz.ntmps46
  go_wp2_with fail
  refine hl.mono ?_
  clear hl
  rintro e w1 ⟨rfl, rfl⟩
  go_wp2_with fail
  refine (HN.out).mono ?_
  rintro e w2 ⟨rfl, hS, hb2⟩
  go_wp2_with fail
  refine (HU.out _ _ hS).mono ?_
  rintro e w3 ⟨rfl, rfl⟩
  go_wp2_with fail
  have hbw : Below w1.heap.size w1 (Lib.bytesWorld w2 5 s) := bstep (show Below w2.heap.size w2 (Lib.bytesWorld w2 5 s) from ⟨rfl, rfl, rfl, by rw [Lib.bytesWorld_size]; omega, fun i hi => Lib.bytesWorld_at_old w2 5 s i hi⟩) hb2
  have hSw : Sk (Lib.bytesWorld w2 5 s) w1.heap.size b (List.replicate s.size 0) := ⟨(Lib.bytesWorld_at_old w2 5 s _ hS.lt).trans hS.blk, hS.lo, hS.hi, hS.len, hS.wf⟩
  have hcb : ∀ j, j < s.size → (Lib.bytesWorld w2 5 s).cell? ⟨w2.heap.size, j, none⟩ = some (.int .u8 ((bI s).getD j 0)) := fun j hj => by rw [Lib.bytesWorld_cell w2 5 s j hj, bI_get s j hj]
  have hne : w1.heap.size < w2.heap.size := hS.lt
  have HCB := Lib.hid hcb
  clear hcb hcv
  generalize grownCap w2 s.size 0 5 = cap at *
  generalize Lib.bytesWorld w2 5 s = w3 at *
  clear hb2 hS
  clear HN HU hd1 hd2
  go_loopw [30] (fun i wr => ∃ k : Nat, k ≤ s.size ∧ i = .int .i64 k ∧ Sk wr w1.heap.size b (partTo (bI s) k) ∧ w3.grownBy wr (some w1.heap.size) ∧ ∀ j, j < k → (bI s).getD j 0 ≤ 26) (fun i _ => s.size - (intOf i).toNat)
  case atStart => exact ⟨0, Nat.zero_le _, rfl, by rw [partTo_zero, bI_len]; exact hSw, only_refl _ _, fun j hj => by omega⟩
  case round =>
    obtain ⟨k, hk, rfl, hSk, hGk, hle⟩ := hrel
    by_cases hkm : k < s.size
    · have hc := hGk.cell (HCB.out k hkm) (by simp; omega)
      have hv := bI_bd s k
      have HNB := Lib.hid (notOk_byte s k hkm)
      have hkl : k < (bI s).length := by rw [bI_len]; exact hkm
      have hsucc : ∀ v, (bI s).getD k 0 = v → (partTo (bI s) k).set k v = partTo (bI s) (k + 1) := fun v hv => partTo_succ _ k v hkl hv
      have hra := fun n h0 h1 => raise_any w1.heap.size b (partTo (bI s) k) k n wr hSk (by rw [← HSZ.out]; exact hkm) h0 h1
      rw [partTo_get _ k hkl] at hra
      have HLE := Lib.hid hle
      have HRA := Lib.hid hra
      have HSU := Lib.hid hsucc
      clear hra hsucc hle hkl
      obtain ⟨v, hv0⟩ : ∃ v, (bI s).getD k 0 = v := ⟨_, rfl⟩
      rw [hv0] at hc hv HNB
      have HV := Lib.hid hv0
      clear hv0
      have hk1 : (k : Int) < s.size := by omega
      by_cases h26 : 26 < v
      · go_wp2_with fail
        go_ret2
        refine ⟨?_, .inr ⟨HNB.out h26, rfl⟩⟩
        exact bonly hbw hGk (Nat.le_refl _)
      · go_wp2_with fail
        refine (HRA.out v hv.1 (by omega)).mono ?_
        rintro e w4 ⟨rfl, hS2, hG2⟩
        have e2 : max 0 v = v := by omega
        rw [e2, HSU.out v HV.out] at hS2
        have hG3 := only_trans hGk hG2
        go_wp2_with fail
        go_roundw
        case rel => exact ⟨k + 1, by omega, by go_num, hS2, hG3, fun j hj => by
          rcases Nat.lt_or_ge j k with h1 | h1
          · exact HLE.out j h1
          · obtain rfl : j = k := by omega
            rw [HV.out]; omega⟩
        case measure => simp [intOf]; omega
    · obtain rfl : k = s.size := by omega
      have HLE := Lib.hid hle
      clear hle
      go_wp2_with fail
      go_ret2
      refine ⟨bonly hbw hGk (Nat.le_refl _), .inl ⟨⟨⟨b, by omega, by omega, HSZ.out⟩, ?_⟩, w1.heap.size, b, rfl, Nat.le_refl _, ?_⟩⟩
      · intro x hx
        obtain ⟨j, hj, rfl⟩ := List.mem_iff_getElem.1 hx
        have := HLE.out j (by rw [← bI_len]; exact hj)
        rw [List.getD_eq_getElem?_getD, List.getElem?_eq_getElem hj] at this
        exact this
      · have e3 : partTo (bI s) s.size = bI s := by rw [← bI_len]; exact partTo_all _
        rw [e3] at hSk
        exact hSk

theorem Of_any (s : ByteArray) (w : World) (hs : s.size ≤ 9223372036854775807) : Calls Tryz.prog 46 #[.string s] w (OfPost s w) := by
  by_cases h1 : ((Lib.bitLen s.size : Nat) : Int) - 1 < 4 ∨ 10 < ((Lib.bitLen s.size : Nat) : Int) - 1
  · exact Of_bits s w hs h1
  · obtain ⟨b, hb⟩ : ∃ b, Lib.bitLen s.size = b + 1 := ⟨Lib.bitLen s.size - 1, by omega⟩
    by_cases h2 : s.size = 2 ^ b
    · exact Of_loop s b w (by omega) h2
    · exact Of_len s b w hs (by omega) hb h2
end Go.Proofs.YtapiehddcdnadaaGreatDoor
namespace Go.Proofs.YtapiehddcdnadaaGreatDoor
open Go.RowKit
set_option linter.unusedVariables false
set_option linter.unusedSimpArgs false

/-- The registers behind additions. -/
def feed (b : Nat) (r : List Int) (xs : List Int) : List Int := xs.foldl (fun r x => addR b r x.toNat) r
def zeros (b : Nat) : List Int := List.replicate (2 ^ b) 0

def ex1 : List Int := 1 :: List.replicate 15 0
theorem ex_add : addR 4 (zeros 4) 16 = ex1 ∧ addB 4 (zeros 4) 16 = true ∧ addR 4 ex1 16 = ex1 ∧ addB 4 ex1 16 = false ∧ estI 4 (zeros 4) = 0 ∧ estI 4 ex1 = 1 := by decide +kernel

theorem feed_snoc (b : Nat) (r xs : List Int) (k : Nat) (hk : k < xs.length) : feed b r (xs.take (k + 1)) = addR b (feed b r (xs.take k)) (xs.getD k 0).toNat := by
  unfold feed
  rw [List.take_succ_eq_append_getElem hk, List.foldl_append]
  simp [List.getD_eq_getElem?_getD, List.getElem?_eq_getElem hk]

theorem Ints.bd64 {w : World} {a : Option Addr} {n : Nat} {xs : List Int} (h : Ints .u64 w a n xs) (k : Nat) (hk : k < n) : 0 ≤ xs.getD k 0 ∧ xs.getD k 0 ≤ 18446744073709551615 := by
  refine bounds_u64 (h.wf _ ?_)
  rw [List.getD_eq_getElem?_getD, List.getElem?_eq_getElem (by rw [h.len]; exact hk)]
  exact List.getElem_mem _

end Go.Proofs.YtapiehddcdnadaaGreatDoor
namespace Go.Proofs.YtapiehddcdnadaaGreatDoor
open Go.RowKit
set_option linter.unusedVariables false
set_option linter.unusedSimpArgs false

theorem getD_set (r : List Int) (k j : Nat) (v : Int) (hk : k < r.length) : (r.set k v).getD j 0 = if j = k then v else r.getD j 0 := by
  simp only [List.getD_eq_getElem?_getD, List.getElem?_set]
  by_cases h : k = j
  · subst h; simp [hk]
  · rw [if_neg h, if_neg (fun e => h e.symm)]

theorem ext_getD {r q : List Int} (hl : r.length = q.length) (h : ∀ j, j < r.length → r.getD j 0 = q.getD j 0) : r = q := by
  refine List.ext_getElem hl (fun j h1 h2 => ?_)
  have := h j h1
  rwa [List.getD_eq_getElem?_getD, List.getD_eq_getElem?_getD, List.getElem?_eq_getElem h1, List.getElem?_eq_getElem h2] at this

theorem addR_getD (b : Nat) (r : List Int) (h j : Nat) (hr : r.length = 2 ^ b) : (addR b r h).getD j 0 = if j = h % 2 ^ b then max (r.getD j 0) (rk26 h b) else r.getD j 0 := by
  unfold addR
  rw [getD_set _ _ _ _ (by rw [hr]; exact Nat.mod_lt _ (Nat.two_pow_pos b))]
  by_cases e : j = h % 2 ^ b
  · rw [if_pos e, if_pos e, e]
  · rw [if_neg e, if_neg e]

theorem addR_comm (b : Nat) (r : List Int) (x y : Nat) (hr : r.length = 2 ^ b) : addR b (addR b r x) y = addR b (addR b r y) x := by
  refine ext_getD (by simp [addR_len]) (fun j _ => ?_)
  rw [addR_getD b _ y j (by rw [addR_len, hr]), addR_getD b r x j hr, addR_getD b _ x j (by rw [addR_len, hr]), addR_getD b r y j hr]
  by_cases h1 : j = y % 2 ^ b <;> by_cases h2 : j = x % 2 ^ b <;> simp only [h1, h2, if_true, if_false] <;> (try split) <;> omega

theorem addR_twice (b : Nat) (r : List Int) (x : Nat) (hr : r.length = 2 ^ b) : addR b (addR b r x) x = addR b r x := by
  refine ext_getD (by simp [addR_len]) (fun j _ => ?_)
  rw [addR_getD b _ x j (by rw [addR_len, hr]), addR_getD b r x j hr]
  split <;> omega

theorem feed_len (b : Nat) (xs : List Int) : ∀ r, (feed b r xs).length = r.length := by
  induction xs with
  | nil => intro r; rfl
  | cons x xs ih => intro r; show (feed b (addR b r x.toNat) xs).length = _; rw [ih, addR_len]
theorem feed_cons (b : Nat) (r : List Int) (x : Int) (xs : List Int) : feed b r (x :: xs) = feed b (addR b r x.toNat) xs := rfl
theorem feed_append (b : Nat) (r xs ys : List Int) : feed b r (xs ++ ys) = feed b (feed b r xs) ys := by simp [feed]
theorem feed_add (b : Nat) (y : Nat) (xs : List Int) : ∀ r, r.length = 2 ^ b → feed b (addR b r y) xs = addR b (feed b r xs) y := by
  induction xs with
  | nil => intro r _; rfl
  | cons x xs ih =>
    intro r hr
    rw [feed_cons, feed_cons, addR_comm b r y _ hr, ih _ (by rw [addR_len, hr])]
theorem feed_comm (b : Nat) (ys xs : List Int) : ∀ r, r.length = 2 ^ b → feed b (feed b r ys) xs = feed b (feed b r xs) ys := by
  induction ys with
  | nil => intro r _; rfl
  | cons y ys ih =>
    intro r hr
    rw [feed_cons, ih _ (by rw [addR_len, hr]), feed_add b _ xs r hr, feed_cons]
theorem feed_mem (b : Nat) (x : Int) (xs : List Int) (r : List Int) (hr : r.length = 2 ^ b) (hx : x ∈ xs) : addR b (feed b r xs) x.toNat = feed b r xs := by
  induction xs generalizing r with
  | nil => cases hx
  | cons y ys ih =>
    rw [feed_cons]
    rcases List.mem_cons.1 hx with h | h
    · subst h
      rw [feed_add b _ ys r hr, addR_twice b _ _ (by rw [feed_len, hr])]
    · exact ih _ (by rw [addR_len, hr]) h
theorem feed_absorb (b : Nat) (xs : List Int) (r : List Int) (hr : r.length = 2 ^ b) : ∀ ys : List Int, (∀ y ∈ ys, y ∈ xs) → feed b (feed b r xs) ys = feed b r xs
  | [], _ => rfl
  | y :: ys, h => by
    rw [feed_cons, feed_mem b y xs r hr (h y List.mem_cons_self)]
    exact feed_absorb b xs r hr ys (fun z hz => h z (List.mem_cons_of_mem _ hz))

theorem zeros_len (b : Nat) : (zeros b).length = 2 ^ b := by simp [zeros]
theorem zeros_get (b j : Nat) : (zeros b).getD j 0 = 0 := by
  simp only [zeros, List.getD_eq_getElem?_getD, List.getElem?_replicate]
  split <;> rfl

/-- In whatever order, and however often. -/
theorem order_law (b : Nat) (xs ys : List Int) (h : ∀ y ∈ ys, y ∈ xs) : feed b (feed b (zeros b) ys) xs = feed b (zeros b) xs := by
  rw [feed_comm b ys xs _ (zeros_len b)]
  exact feed_absorb b xs _ (zeros_len b) ys h

theorem grows_law (b : Nat) (r : List Int) (h j : Nat) (hr : r.length = 2 ^ b) : r.getD j 0 ≤ (addR b r h).getD j 0 := by
  rw [addR_getD b r h j hr]
  split <;> omega

theorem zip_get (r q : List Int) (j : Nat) (hl : r.length = q.length) : (List.zipWith max r q).getD j 0 = max (r.getD j 0) (q.getD j 0) := by
  simp only [List.getD_eq_getElem?_getD, List.getElem?_zipWith]
  rcases Nat.lt_or_ge j r.length with h | h
  · rw [List.getElem?_eq_getElem h, List.getElem?_eq_getElem (by omega)]; rfl
  · rw [List.getElem?_eq_none h, List.getElem?_eq_none (by omega)]; rfl

theorem zip_add (b : Nat) (r q : List Int) (h : Nat) (hr : r.length = 2 ^ b) (hq : q.length = 2 ^ b) : addR b (List.zipWith max r q) h = List.zipWith max r (addR b q h) := by
  refine ext_getD (by simp [addR_len]) (fun j _ => ?_)
  rw [addR_getD b _ h j (by simp [hr, hq]), zip_get r q j (by omega), zip_get r _ j (by rw [addR_len]; omega), addR_getD b q h j hq]
  split <;> omega
theorem zip_feed (b : Nat) (xs : List Int) : ∀ r q, r.length = 2 ^ b → q.length = 2 ^ b → feed b (List.zipWith max r q) xs = List.zipWith max r (feed b q xs) := by
  induction xs with
  | nil => intro r q _ _; rfl
  | cons x xs ih =>
    intro r q hr hq
    rw [feed_cons, feed_cons, zip_add b r q _ hr hq, ih r _ hr (by rw [addR_len, hq])]
theorem zip_zeros (b : Nat) (r : List Int) (hr : r.length = 2 ^ b) (h0 : ∀ j, 0 ≤ r.getD j 0) : List.zipWith max r (zeros b) = r := by
  refine ext_getD (by simp [hr, zeros_len]) (fun j _ => ?_)
  rw [zip_get r _ j (by rw [hr, zeros_len]), zeros_get]
  have := h0 j
  omega
theorem feed_nonneg (b : Nat) (xs : List Int) : ∀ r, r.length = 2 ^ b → (∀ j, 0 ≤ r.getD j 0) → ∀ j, 0 ≤ (feed b r xs).getD j 0 := by
  induction xs with
  | nil => intro r _ h; exact h
  | cons x xs ih =>
    intro r hr h
    refine ih _ (by rw [addR_len, hr]) (fun j => ?_)
    show 0 ≤ (addR b r x.toNat).getD j 0
    have := grows_law b r x.toNat j hr
    have := h j
    omega
/-- Merged, two have what all of both would have made. -/
theorem merge_law (b : Nat) (xs ys : List Int) : List.zipWith max (feed b (zeros b) xs) (feed b (zeros b) ys) = feed b (zeros b) (xs ++ ys) := by
  have h1 : (feed b (zeros b) xs).length = 2 ^ b := by rw [feed_len, zeros_len]
  rw [← zip_feed b ys _ _ h1 (zeros_len b), zip_zeros b _ h1 (feed_nonneg b xs _ (zeros_len b) (fun j => by rw [zeros_get]; exact Int.le_refl 0)), feed_append]

/-- How many registers are other than 0. -/
def manyOf (r : List Int) : Nat := r.countP fun x => decide (0 < x)
theorem many_set (r : List Int) (k : Nat) (v : Int) : manyOf (r.set k v) ≤ manyOf r + 1 := by
  unfold manyOf
  rcases Nat.lt_or_ge k r.length with hk | hk
  · rw [List.countP_set hk]
    have h1 : (if decide (0 < r[k]) = true then 1 else 0) ≤ 1 := by split <;> omega
    have h2 : (if decide (0 < v) = true then 1 else 0) ≤ 1 := by split <;> omega
    omega
  · rw [List.set_eq_of_length_le hk]; omega
theorem many_feed (b : Nat) (xs : List Int) : ∀ r, manyOf (feed b r xs) ≤ manyOf r + xs.length := by
  induction xs with
  | nil => intro r; simp [feed]
  | cons x xs ih =>
    intro r
    rw [feed_cons]
    have h1 := ih (addR b r x.toNat)
    have h2 : manyOf (addR b r x.toNat) ≤ manyOf r + 1 := many_set _ _ _
    simp only [List.length_cons]
    omega
theorem many_zeros (b : Nat) : manyOf (zeros b) = 0 := by
  unfold manyOf zeros
  rw [List.countP_replicate]
  simp

/-- One register alone. -/
theorem one_sum (m k : Nat) (v : Int) (hk : k < m) : sumTo ((List.replicate m 0).set k v) m = ((m : Int) - 1) * 67108864 + (2 : Int) ^ (26 - v.toNat) := by
  unfold sumTo
  rw [List.take_of_length_le (by simp), List.set_eq_take_append_cons_drop, if_pos (by simpa using hk)]
  simp only [List.take_replicate, List.drop_replicate, List.map_append, List.map_cons, List.map_replicate, List.sum_append, List.sum_cons, List.sum_replicate_int]
  have e : (2 : Int) ^ (26 - (0 : Int).toNat) = 67108864 := by decide
  rw [e]
  have e2 : (min k m : Nat) = k := by omega
  rw [e2]
  have e3 : ((m - (k + 1) : Nat) : Int) = (m : Int) - k - 1 := by omega
  rw [e3]
  generalize (2 : Int) ^ (26 - v.toNat) = p
  omega
theorem one_zero (m k : Nat) (v : Int) (hk : k < m) (hv : v ≠ 0) : zeroTo ((List.replicate m 0).set k v) m = (m : Int) - 1 := by
  unfold zeroTo
  rw [List.take_of_length_le (by simp), List.countP_set (by simpa using hk), List.countP_replicate]
  simp [hv]
  omega
/-- The estimate of one alone, told by its bits and its rank: a check of 182 cases. -/
def oneOk (b v : Nat) : Bool := decide (((alphaN b * 2 ^ b * 2 ^ b : Nat) : Int) * 67108864 / (10000 * ((((2 ^ b : Nat) : Int) - 1) * 67108864 + (2 : Int) ^ (26 - v))) ≤ 5 * ((2 ^ b : Nat) : Int) / 2)
theorem oneOk_all : ∀ b, b < 7 → ∀ v, v < 27 → oneOk (b + 4) v = true := by decide +kernel
theorem one_est (b k : Nat) (v : Int) (hb1 : 4 ≤ b) (hb2 : b ≤ 10) (hk : k < 2 ^ b) (h0 : 1 ≤ v) (h1 : v ≤ 26) : estI b ((zeros b).set k v) = 1 := by
  have hp : 2 ^ 4 ≤ 2 ^ b := Nat.pow_le_pow_right (by omega) hb1
  unfold estI zeros
  rw [one_sum _ k v hk, one_zero _ k v hk (by omega)]
  have hok := oneOk_all (b - 4) (by omega) v.toNat (by omega)
  rw [show b - 4 + 4 = b by omega] at hok
  have h2 := of_decide_eq_true hok
  rw [if_neg (by simp only [rawI, not_or]; omega)]
  have e1 : (((2 ^ b : Nat) : Int) - 1).toNat = 2 ^ b - 1 := by omega
  rw [e1, show 2 ^ b - (2 ^ b - 1) = 1 by omega]
  simp only [rareTo, Nat.zero_add]
  rw [show 2 ^ b - 1 + 0 + 1 = 2 ^ b by omega, Nat.mul_comm, Nat.mul_div_cancel _ (by omega)]
  rfl
theorem none_est (b : Nat) (h : b = 4 ∨ b = 5 ∨ b = 6 ∨ b = 7 ∨ b = 8 ∨ b = 9 ∨ b = 10) : estI b (zeros b) = 0 := by
  rcases h with rfl | rfl | rfl | rfl | rfl | rfl | rfl <;> decide +kernel
theorem feed_one (b : Nat) (x : Int) (h : b = 4 ∨ b = 5 ∨ b = 6 ∨ b = 7 ∨ b = 8 ∨ b = 9 ∨ b = 10) : estI b (feed b (zeros b) [x]) = 1 := by
  show estI b (addR b (zeros b) x.toNat) = 1
  unfold addR
  rw [zeros_get]
  have := rk26_bd x.toNat b
  exact one_est b _ _ (by omega) (by omega) (Nat.mod_lt _ (Nat.two_pow_pos b)) (by omega) (by omega)
end Go.Proofs.YtapiehddcdnadaaGreatDoor
namespace Go.Proofs.YtapiehddcdnadaaGreatDoor
open Go.RowKit
set_option linter.unusedVariables false
set_option linter.unusedSimpArgs false

theorem ctz_pow (n : Nat) (hn : n < 64) : Lib.ctz 64 (2 ^ n) = n := by
  have h : ∀ n, n < 64 → Lib.ctz 64 (2 ^ n) = n := by decide +kernel
  exact h n hn

/-- A sum that comes to register k with rank n + 1. -/
theorem sum_facts (b n k : Nat) (hb : b ≤ 10) (hn : n < 64 - b) (hk : k < 2 ^ b) :
    k + 2 ^ (b + n) < 18446744073709551616 ∧ (k + 2 ^ (b + n)) % 2 ^ b = k ∧ rk26 (k + 2 ^ (b + n)) b = ((min (n + 1) 26 : Nat) : Int) := by
  have h1 : 2 ^ (b + n) ≤ 2 ^ 63 := Nat.pow_le_pow_right (by omega) (by omega)
  have h2 : 2 ^ b ≤ 2 ^ 10 := Nat.pow_le_pow_right (by omega) hb
  have e : (k + 2 ^ (b + n)) / 2 ^ b = 2 ^ n := by
    rw [Nat.pow_add, Nat.add_mul_div_left _ _ (Nat.two_pow_pos b), Nat.div_eq_of_lt hk, Nat.zero_add]
  refine ⟨by omega, ?_, ?_⟩
  · rw [Nat.pow_add, Nat.add_mul_mod_self_left, Nat.mod_eq_of_lt hk]
  · unfold rk26 rk
    rw [e, ctz_pow n (by omega)]
    congr 1
    omega

theorem strOfNums_get (xs : List Int) (i : Nat) (h : i < xs.length) : (strOfNums xs)[i]? = some (UInt8.ofNat (xs.getD i 0).toNat) := by
  have hs : i < (strOfNums xs).size := by rw [strOfNums_size]; exact h
  rw [getElem?_pos (strOfNums xs) i hs]
  congr 1
  show (strOfNums xs).data[i] = _
  simp [strOfNums, List.getD_eq_getElem?_getD, List.getElem?_eq_getElem h]

theorem Ints.bd8 {w : World} {a : Option Addr} {n : Nat} {xs : List Int} (h : Ints .u8 w a n xs) (k : Nat) (hk : k < n) : 0 ≤ xs.getD k 0 ∧ xs.getD k 0 ≤ 255 := by
  refine bounds_u8 (h.wf _ ?_)
  rw [List.getD_eq_getElem?_getD, List.getElem?_eq_getElem (by rw [h.len]; exact hk)]
  exact List.getElem_mem _

theorem nil_ints (w : World) : Ints .u64 w none 0 [] := Ints.nil _ _ _

end Go.Proofs.YtapiehddcdnadaaGreatDoor
namespace Go.Proofs.YtapiehddcdnadaaGreatDoor
open Go.RowKit
set_option linter.unusedVariables false
set_option linter.unusedSimpArgs false

/-- May there be so many registers? -/
def mayB (n : Nat) : Bool := n == 16 || n == 32 || n == 64 || n == 128 || n == 256 || n == 512 || n == 1024

theorem may_at (n k : Nat) (hk : mayB k = true) (h : (n : Int) = (k : Int)) : mayB n = true := by
  obtain rfl : n = k := by omega
  exact hk
theorem may_no (n : Nat) (h16 : ((n : Int) == 16) = false) (h32 : ((n : Int) == 32) = false) (h64 : ((n : Int) == 64) = false) (h128 : ((n : Int) == 128) = false) (h256 : ((n : Int) == 256) = false)
    (h512 : ((n : Int) == 512) = false) (h1024 : ((n : Int) == 1024) = false) : mayB n = false := by
  simp only [beq_eq_false_iff_ne, ne_eq] at *
  unfold mayB
  simp only [Bool.or_eq_false_iff, beq_eq_false_iff_ne, ne_eq]
  omega

theorem may_iff (n : Nat) (hn : n < 1100) : mayB n = true ↔ ∃ b, 4 ≤ b ∧ b ≤ 10 ∧ n = 2 ^ b := by
  constructor
  · intro h
    unfold mayB at h
    simp only [Bool.or_eq_true, beq_iff_eq] at h
    rcases h with (((((h | h) | h) | h) | h) | h) | h
    · exact ⟨4, by omega, by omega, h⟩
    · exact ⟨5, by omega, by omega, h⟩
    · exact ⟨6, by omega, by omega, h⟩
    · exact ⟨7, by omega, by omega, h⟩
    · exact ⟨8, by omega, by omega, h⟩
    · exact ⟨9, by omega, by omega, h⟩
    · exact ⟨10, by omega, by omega, h⟩
  · rintro ⟨b, h1, h2, rfl⟩
    rcases (show b = 4 ∨ b = 5 ∨ b = 6 ∨ b = 7 ∨ b = 8 ∨ b = 9 ∨ b = 10 by omega) with rfl | rfl | rfl | rfl | rfl | rfl | rfl <;> decide
theorem info_u8 : (Tryz.prog.info? 5).map (fun i => (i.zero, i.size, i.bytes)) = some (some (.int .u8 0), 1, 1) := by kernel_rfl
theorem made_get (n i : Nat) (h : i < n) : (madeCells #[Value.int .u8 0] n)[i]? = some (.int .u8 0) := by
  rw [← Array.getElem?_toList, toList_madeCells_one, List.getElem?_replicate, if_pos h]
theorem made_set (n k i : Nat) (v : Int) (hi : i < n) (hk : k < n) : ((madeCells #[Value.int .u8 0] n).setIfInBounds k (.int .u8 v))[i]? = some (.int .u8 (((List.replicate n 0).set k v).getD i 0)) := by
  rw [Array.getElem?_setIfInBounds]
  by_cases hik : k = i
  · subst hik
    rw [if_pos rfl, if_pos (by rw [← Array.length_toList, toList_madeCells_one]; simpa using hk)]
    simp [List.getD_eq_getElem?_getD, hk]
  · rw [if_neg hik, made_get n i hi]
    simp [List.getD_eq_getElem?_getD, List.getElem?_set, hik, List.getElem?_replicate, hi]
theorem bI_str (xs : List Int) (h : ∀ x ∈ xs, 0 ≤ x ∧ x ≤ 255) : bI (strOfNums xs) = xs := by
  unfold bI
  rw [strOfNums_data, List.map_map]
  conv => rhs; rw [← List.map_id xs]
  refine List.map_congr_left (fun x hx => ?_)
  have := h x hx
  simp only [Function.comp, id, UInt8.toNat_ofNat']
  omega
theorem set_all (n k : Nat) (v : Int) (hk : k < n) (hv : 0 ≤ v ∧ v ≤ 255) : bI (strOfNums ((List.replicate n 0).set k v)) = (List.replicate n 0).set k v ∧ ((∀ x ∈ (List.replicate n (0 : Int)).set k v, x ≤ 26) ↔ v ≤ 26) := by
  refine ⟨bI_str _ (fun x hx => ?_), ?_⟩
  · rcases List.mem_or_eq_of_mem_set hx with h | h
    · rw [List.eq_of_mem_replicate h]; omega
    · omega
  · constructor
    · intro h
      exact h v (List.mem_iff_getElem.2 ⟨k, by simpa using hk, by simp⟩)
    · intro h x hx
      rcases List.mem_or_eq_of_mem_set hx with h1 | h1
      · rw [List.eq_of_mem_replicate h1]; omega
      · omega
/-- A new row of bytes as a text. -/
theorem conv_new (W : World) (cs : Array Value) (xs : List Int) (n c : Nat) (hl : xs.length = n) (h : ∀ i, i < n → cs[i]? = some (.int .u8 (xs.getD i 0))) :
    (convert 68 9 (.slice (some ⟨W.heap.size, 0, none⟩) n c)).run Tryz.prog (W.alloc (.cells cs 5)) = .ok (.string (strOfNums xs)) (W.alloc (.cells cs 5)) :=
  run_convert_bytes_arg (P := Tryz.prog) _ 68 5 Tryz.underlying68 Tryz.underlying5 W.heap.size 0 n c xs hl (fun i hi => by rw [Nat.zero_add]; exact (Blk.new W 5 cs).cellAt i (h i hi)) 9 Tryz.underlying9
end Go.Proofs.YtapiehddcdnadaaGreatDoor
namespace Go.Proofs.YtapiehddcdnadaaGreatDoor
open Go.RowKit
set_option linter.unusedVariables false
set_option linter.unusedSimpArgs false

/-- Block g is the document's sketch, block h its registers r (2 to the b of them). -/
structure Rf (w : World) (g h b : Nat) (r : List Int) : Prop where
  blk : Blk w g 96 #[.slice (some ⟨h, 0, none⟩) (2 ^ b) (2 ^ b)]
  row : Blk w h 3 (r.map (Value.int .i64)).toArray
  lo : 4 ≤ b
  hi : b ≤ 10
  len : r.length = 2 ^ b
  wf : ∀ x ∈ r, 0 ≤ x ∧ x ≤ 26

section
variable {w w' : World} {g h b : Nat} {r : List Int}
theorem Rf.bits_cases (R : Rf w g h b r) : b = 4 ∨ b = 5 ∨ b = 6 ∨ b = 7 ∨ b = 8 ∨ b = 9 ∨ b = 10 := by
  have := R.lo; have := R.hi; omega
theorem Rf.cell0 (R : Rf w g h b r) : w.cell? ⟨g, 0, none⟩ = some (.slice (some ⟨h, 0, none⟩) (2 ^ b) (2 ^ b)) := R.blk.cellAt 0 rfl
theorem Rf.cell (R : Rf w g h b r) (k : Nat) (hk : k < 2 ^ b) : w.cell? ⟨h, k, none⟩ = some (.int .i64 (r.getD k 0)) := by
  refine R.row.cellAt k ?_
  have hl := R.len
  have hk' : k < r.length := by omega
  simp [List.getD_eq_getElem?_getD, List.getElem?_eq_getElem hk']
theorem Rf.frozen (R : Rf w g h b r) (i : Nat) : w.frozen? ⟨h, i, none⟩ = false := R.row.frozen i
theorem Rf.ne_ (R : Rf w g h b r) : g ≠ h := R.blk.ne_ R.row (by decide)
theorem Rf.lt (R : Rf w g h b r) : g < w.heap.size ∧ h < w.heap.size := ⟨R.blk.lt, R.row.lt⟩
theorem Rf.get (R : Rf w g h b r) (k : Nat) : 0 ≤ r.getD k 0 ∧ r.getD k 0 ≤ 26 := by
  rw [List.getD_eq_getElem?_getD]
  rcases Nat.lt_or_ge k r.length with hk | hk
  · rw [List.getElem?_eq_getElem hk]
    exact R.wf _ (List.getElem_mem hk)
  · rw [List.getElem?_eq_none hk]
    simp
theorem Rf.step (hb : Below w.heap.size w w') (R : Rf w g h b r) : Rf w' g h b r := ⟨Blk.step hb R.blk, Blk.step hb R.row, R.lo, R.hi, R.len, R.wf⟩
theorem Rf.drewN (R : Rf w g h b r) (n : Nat) : Rf (w.drewN n) g h b r := ⟨R.blk, R.row, R.lo, R.hi, R.len, R.wf⟩
theorem Rf.grown {row : Option Nat} (hb : w.grownBy w' row) (R : Rf w g h b r) (h1 : some g ≠ row) (h2 : some h ≠ row) : Rf w' g h b r := ⟨Blk.grown hb R.blk h1, Blk.grown hb R.row h2, R.lo, R.hi, R.len, R.wf⟩
theorem Rf.put (R : Rf w g h b r) (k : Nat) (v : Int) (hk : k < 2 ^ b) (h0 : 0 ≤ v) (h1 : v ≤ 26) : Rf (w.setCell ⟨h, k, none⟩ (.int .i64 v)) g h b (r.set k v) where
  blk := R.blk.far R.ne_ _
  row := by
    have h2 := R.row.put k (.int .i64 v)
    have e : (r.map (Value.int .i64)).toArray.setIfInBounds k (.int .i64 v) = ((r.set k v).map (Value.int .i64)).toArray := by
      rw [List.setIfInBounds_toArray, List.map_set]
    rw [e] at h2
    exact h2
  lo := R.lo
  hi := R.hi
  len := by rw [List.length_set]; exact R.len
  wf := by
    intro x hx
    rcases List.mem_or_eq_of_mem_set hx with h2 | h2
    · exact R.wf x h2
    · subst h2; exact ⟨h0, h1⟩
end

theorem info_int : (Tryz.prog.info? 3).map (fun i => (i.zero, i.size, i.bytes)) = some (some (.int .i64 0), 1, 8) := by kernel_rfl
theorem shlw (b : Nat) (h : b = 4 ∨ b = 5 ∨ b = 6 ∨ b = 7 ∨ b = 8 ∨ b = 9 ∨ b = 10) : wrap64 ((2 : Int) ^ b) = ((2 ^ b : Nat) : Int) := by
  rcases h with rfl | rfl | rfl | rfl | rfl | rfl | rfl <;> decide +kernel

theorem shlk (k : Nat) (h : k ≤ 10) : IntKind.i64.wrap ((2 : Int) ^ min k 64) = ((2 ^ k : Nat) : Int) := by
  rcases (show k = 0 ∨ k = 1 ∨ k = 2 ∨ k = 3 ∨ k = 4 ∨ k = 5 ∨ k = 6 ∨ k = 7 ∨ k = 8 ∨ k = 9 ∨ k = 10 by omega) with rfl | rfl | rfl | rfl | rfl | rfl | rfl | rfl | rfl | rfl | rfl <;> decide +kernel

theorem shlkw (k : Nat) (h : k ≤ 10) : wrap64 ((2 : Int) ^ k) = ((2 ^ k : Nat) : Int) := by
  rcases (show k = 0 ∨ k = 1 ∨ k = 2 ∨ k = 3 ∨ k = 4 ∨ k = 5 ∨ k = 6 ∨ k = 7 ∨ k = 8 ∨ k = 9 ∨ k = 10 by omega) with rfl | rfl | rfl | rfl | rfl | rfl | rfl | rfl | rfl | rfl | rfl <;> decide +kernel

theorem RNew_no (bits : Int) (w : World) (h : bits < 4 ∨ 10 < bits) :
    Calls Tryz.prog 32 #[.int .i64 bits] w fun e w' => e = .returned (.pointer none) ∧ w = w' := by
  go_enter Tryz.func32, Tryz.ntmps32
  rcases h with h | h
  · go_wp2_with fail
    go_ret
    exact ⟨rfl, rfl⟩
  · have h2 : ¬ bits < 4 := by omega
    go_wp2_with fail
    go_ret
    exact ⟨rfl, rfl⟩

theorem RNew_yes (b : Nat) (w : World) (hb : b = 4 ∨ b = 5 ∨ b = 6 ∨ b = 7 ∨ b = 8 ∨ b = 9 ∨ b = 10) :
    Calls Tryz.prog 32 #[.int .i64 b] w fun e w' => ∃ g h, e = .returned (.pointer (some ⟨g, 0, none⟩)) ∧ w.heap.size ≤ g ∧ w.heap.size ≤ h ∧ Rf w' g h b (zeros b) ∧ Below w.heap.size w w' := by
  have hbl : (4 : Int) ≤ b ∧ (b : Int) ≤ 10 := by omega
  have hsh := shl1i b hb
  have hsw := shlw b hb
  have HB2 := Lib.hid hb
  clear hb
  have hm : 2 ^ b ≤ 1024 := by have := Nat.pow_le_pow_right (n := 2) (by omega) (show b ≤ 10 by omega); simpa using this
  obtain ⟨m, hm0⟩ : ∃ m, 2 ^ b = m := ⟨_, rfl⟩
  rw [hm0] at hm hsh hsw
  have HM := Lib.hid hm0
  clear hm0
  have hmk := run_make_row' (P := Tryz.prog) 94 3 (.int .i64 0) 8 Tryz.underlying94 info_int rfl .i64 .i64 m (by omega) (by omega)
  go_enter Tryz.func32, Tryz.ntmps32
  go_wp2_with fail
  go_ret
  refine ⟨w.heap.size + 1, w.heap.size, rfl, by omega, Nat.le_refl _, ?_, balloc (balloc (Below.refl _ _) _) _⟩
  have hz : madeCells #[Value.int .i64 0] m = ((zeros b).map (Value.int .i64)).toArray := by
    have h1 : (madeCells #[Value.int .i64 0] m).toList = List.replicate m (Value.int .i64 0) := toList_madeCells_one _ _
    have h2 : madeCells #[Value.int .i64 0] m = (madeCells #[Value.int .i64 0] m).toList.toArray := by simp
    rw [h2, h1]
    simp [zeros, HM.out]
  refine ⟨?_, ?_, by omega, by omega, zeros_len b, fun x hx => ?_⟩
  · rw [HM.out]
    exact Blk.newAt (by simp)
  · rw [← hz]
    exact (Blk.new _ _ _).alloc _
  · rw [List.eq_of_mem_replicate hx]; omega

/-- Bits counts up to b. -/
theorem RBits_any (g h b : Nat) (r : List Int) (w : World) (R : Rf w g h b r) :
    Calls Tryz.prog 13 #[.pointer (some ⟨g, 0, none⟩)] w fun e w' => e = .returned (.int .i64 b) ∧ Below w.heap.size w w' := by
  have c0 := R.cell0
  have hg := R.lt
  have hlo := R.lo
  have hhi := R.hi
  have hm : 2 ^ b ≤ 1024 := by have := Nat.pow_le_pow_right (n := 2) (by omega) hhi; simpa using this
  have HP := Lib.hid (fun (k : Nat) (hk : k < b) => Nat.pow_lt_pow_right (a := 2) (by omega) hk)
  obtain ⟨m, hm0⟩ : ∃ m, 2 ^ b = m := ⟨_, rfl⟩
  rw [hm0] at hm HP c0
  have HM := Lib.hid hm0
  clear hm0
  go_enter Tryz.func13, Tryz.ntmps13
  go_wp2_with fail
  go_loopw [3] (fun i wr => ∃ k : Nat, k ≤ b ∧ i = .int .i64 k ∧ Below w.heap.size w wr) (fun i _ => b - (intOf i).toNat)
  case atStart => exact ⟨0, Nat.zero_le _, rfl, Below.refl _ _⟩
  case round =>
    obtain ⟨k, hk, rfl, hB⟩ := hrel
    have c1 := hB.cell (p := ⟨g, 0, none⟩) hg.1
    rw [c0] at c1
    have hsk := shlk k (by omega)
    have hsk2 := shlkw k (by omega)
    by_cases hkb : k < b
    · have hp := HP.out k hkb
      obtain ⟨p, hp0⟩ : ∃ p, 2 ^ k = p := ⟨_, rfl⟩
      rw [hp0] at hp hsk hsk2
      clear hp0
      have hp2 : (p : Int) < (m : Int) := by omega
      go_wp2_with fail
      go_quiet (fail)
      go_wp2_with fail
      go_roundw
      case rel => exact ⟨k + 1, by omega, by go_num, bdrewN hB _⟩
      case measure => simp [intOf]; omega
    · obtain rfl : k = b := by omega
      rw [HM.out] at hsk hsk2
      have hp2 : ¬ (m : Int) < (m : Int) := by omega
      go_wp2_with fail
      go_quiet (fail)
      go_wp2_with fail
      go_ret
      exact ⟨rfl, bdrewN hB _⟩
end Go.Proofs.YtapiehddcdnadaaGreatDoor
