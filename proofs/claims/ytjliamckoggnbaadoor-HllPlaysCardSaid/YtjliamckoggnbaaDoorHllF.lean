/- Of: any text of bytes is the sketch that has them, or none: a text of 16 to 1024 bytes, as many as a power of two, none above 26. -/
import Derived.Test.YtjliamckoggnbaaDoorHllE
import Derived.Test.YtjliamckoggnbaaDoorShelf
import Derived.Lib.ConvBytes
namespace Go.Proofs.YtjliamckoggnbaaDoor
open Go.RowKit
set_option linter.unusedVariables false
set_option linter.unusedSimpArgs false

/-- A text's bytes as numbers. -/
def bI (s : ByteArray) : List Int := s.data.toList.map fun c => (c.toNat : Int)
theorem bI_len (s : ByteArray) : (bI s).length = s.size := by rw [bI, List.length_map, Array.length_toList]; rfl
theorem bI_get (s : ByteArray) (k : Nat) (hk : k < s.size) : (bI s).getD k 0 = ((s.data.toList.getD k 0).toNat : Int) := by
  have h : k < s.data.toList.length := by rw [Array.length_toList]; exact hk
  simp [bI, List.getD_eq_getElem?_getD, List.getElem?_eq_getElem h]
theorem bI_bd (s : ByteArray) (k : Nat) : 0 ≤ (bI s).getD k 0 ∧ (bI s).getD k 0 ≤ 255 := by
  rw [List.getD_eq_getElem?_getD]
  rcases Nat.lt_or_ge k (bI s).length with hk | hk
  · rw [List.getElem?_eq_getElem hk]
    simp only [bI, List.getElem_map, Option.getD_some]
    have := (s.data.toList[k]'(by simpa [bI] using hk)).toNat_lt
    omega
  · rw [List.getElem?_eq_none hk]
    simp

/-- Is a text a sketch's? -/
def OkS (s : ByteArray) : Prop := (∃ b, 4 ≤ b ∧ b ≤ 10 ∧ s.size = 2 ^ b) ∧ ∀ x ∈ bI s, x ≤ 26
def OfPost (s : ByteArray) (w : World) (e : Ending) (w' : World) : Prop :=
  Below w.heap.size w w' ∧
    ((OkS s ∧ ∃ g b, e = .returned (.tuple #[.pointer (some ⟨g, 0, none⟩), .int .i64 0]) ∧ w.heap.size ≤ g ∧ Sk w' g b (bI s)) ∨
     (¬ OkS s ∧ e = .returned (.tuple #[.pointer none, .int .i64 2])))

theorem bitLen_pow (b : Nat) (h : b = 4 ∨ b = 5 ∨ b = 6 ∨ b = 7 ∨ b = 8 ∨ b = 9 ∨ b = 10) : Lib.bitLen (2 ^ b) = b + 1 := by
  rcases h with rfl | rfl | rfl | rfl | rfl | rfl | rfl <;> decide +kernel

theorem notOk_bits (s : ByteArray) (h : ((Lib.bitLen s.size : Nat) : Int) - 1 < 4 ∨ 10 < ((Lib.bitLen s.size : Nat) : Int) - 1) : ¬ OkS s := by
  rintro ⟨⟨b, h1, h2, h3⟩, _⟩
  have h4 := bitLen_pow b (by omega)
  rw [← h3] at h4
  omega
theorem notOk_len (s : ByteArray) (b : Nat) (h : Lib.bitLen s.size = b + 1) (hne : s.size ≠ 2 ^ b) : ¬ OkS s := by
  rintro ⟨⟨b', h1, h2, h3⟩, _⟩
  have h4 := bitLen_pow b' (by omega)
  rw [← h3] at h4
  obtain rfl : b' = b := by omega
  exact hne h3
theorem notOk_byte (s : ByteArray) (k : Nat) (hk : k < s.size) (h : 26 < (bI s).getD k 0) : ¬ OkS s := by
  rintro ⟨_, h2⟩
  have hl : k < (bI s).length := by rw [bI_len]; exact hk
  rw [List.getD_eq_getElem?_getD, List.getElem?_eq_getElem hl, Option.getD_some] at h
  have := h2 _ (List.getElem_mem hl)
  omega

/-- The registers when k bytes have been laid. -/
def partTo (l : List Int) (k : Nat) : List Int := l.take k ++ List.replicate (l.length - k) 0
theorem partTo_zero (l : List Int) : partTo l 0 = List.replicate l.length 0 := by simp [partTo]
theorem partTo_all (l : List Int) : partTo l l.length = l := by simp [partTo]
theorem partTo_get (l : List Int) (k : Nat) (hk : k < l.length) : (partTo l k).getD k 0 = 0 := by
  simp only [partTo, List.getD_eq_getElem?_getD]
  rw [List.getElem?_append_right (by simp; omega)]
  simp only [List.getElem?_replicate]
  split <;> rfl
theorem partTo_succ (l : List Int) (k : Nat) (v : Int) (hk : k < l.length) (hv : l.getD k 0 = v) : (partTo l k).set k v = partTo l (k + 1) := by
  simp only [partTo]
  have e : k - (l.take k).length = 0 := by simp; omega
  rw [List.set_append_right _ _ (by simp; omega), e, List.take_succ_eq_append_getElem hk]
  obtain ⟨m, hm⟩ : ∃ m, l.length - k = m + 1 := ⟨l.length - k - 1, by omega⟩
  have hm2 : l.length - (k + 1) = m := by omega
  rw [hm, hm2, List.replicate_succ, List.set_cons_zero]
  rw [List.getD_eq_getElem?_getD, List.getElem?_eq_getElem hk, Option.getD_some] at hv
  simp [hv]

theorem Of_bits (s : ByteArray) (w : World) (hs : s.size ≤ 9223372036854775807) (h : ((Lib.bitLen s.size : Nat) : Int) - 1 < 4 ∨ 10 < ((Lib.bitLen s.size : Nat) : Int) - 1) :
    Calls Tryd.prog 12 #[.string s] w (OfPost s w) := by
  have hno := notOk_bits s h
  have hl := Go.Proofs.Tryd.bits_Len (s.size : Int) w (by omega) (by omega)
  rw [Int.toNat_natCast] at hl
  have hL : Lib.bitLen s.size ≤ 64 := Lib.bitLen_le _ 64 (by omega) (by omega)
  have Hno := Lib.hid hno
  clear hno
  generalize Lib.bitLen s.size = L at *
  go_enter Tryd.func12, Tryd.ntmps12
  go_wp2_with fail
  refine hl.mono ?_
  clear hl
  rintro e w1 ⟨rfl, rfl⟩
  go_wp2_with fail
  refine (New_no _ _ h).mono ?_
  rintro e w2 ⟨rfl, hb⟩
  go_wp2_with fail
  go_ret2
  exact ⟨hb, .inr ⟨Hno.out, rfl⟩⟩

theorem Of_len (s : ByteArray) (b : Nat) (w : World) (hs : s.size ≤ 9223372036854775807) (hb : b = 4 ∨ b = 5 ∨ b = 6 ∨ b = 7 ∨ b = 8 ∨ b = 9 ∨ b = 10) (h : Lib.bitLen s.size = b + 1) (hne : s.size ≠ 2 ^ b) :
    Calls Tryd.prog 12 #[.string s] w (OfPost s w) := by
  have Hno := Lib.hid (notOk_len s b h hne)
  have hl := Go.Proofs.Tryd.bits_Len (s.size : Int) w (by omega) (by omega)
  rw [Int.toNat_natCast, h] at hl
  have hm : 2 ^ b ≤ 1024 := by have := Nat.pow_le_pow_right (n := 2) (by omega) (show b ≤ 10 by omega); simpa using this
  have hu := fun W r hS => used_any w.heap.size b r W hS
  have hnew := New_yes b w hb
  have hd1 : ((s.size : Int) == ((2 ^ b : Nat) : Int)) = false := by rw [beq_eq_false_iff_ne]; omega
  have hd2 : ((s.size : Int) != ((2 ^ b : Nat) : Int)) = true := by rw [bne_iff_ne]; omega
  have e1 : (((b + 1 : Nat) : Int) - 1) = b := by omega
  have HU := Lib.hid hu
  have HN := Lib.hid hnew
  clear h hu hnew
  generalize 2 ^ b = m at *
  go_enter Tryd.func12, Tryd.ntmps12
  go_wp2_with fail
  refine hl.mono ?_
  clear hl
  rintro e w1 ⟨rfl, rfl⟩
  go_wp2_with fail
  refine (HN.out).mono ?_
  rintro e w2 ⟨rfl, hS, hb2⟩
  go_wp2_with fail
  refine (HU.out _ _ hS).mono ?_
  rintro e w3 ⟨rfl, rfl⟩
  go_wp2_with fail
  go_ret2
  exact ⟨hb2, .inr ⟨Hno.out, rfl⟩⟩

set_option maxRecDepth 100000 in
set_option maxHeartbeats 1000000 in
theorem Of_loop (s : ByteArray) (b : Nat) (w : World) (hb : b = 4 ∨ b = 5 ∨ b = 6 ∨ b = 7 ∨ b = 8 ∨ b = 9 ∨ b = 10) (hsz : s.size = 2 ^ b) :
    Calls Tryd.prog 12 #[.string s] w (OfPost s w) := by
  have h := bitLen_pow b hb
  rw [← hsz] at h
  have hm : 2 ^ b ≤ 1024 := by have := Nat.pow_le_pow_right (n := 2) (by omega) (show b ≤ 10 by omega); simpa using this
  have hl := Go.Proofs.Tryd.bits_Len (s.size : Int) w (by omega) (by omega)
  rw [Int.toNat_natCast, h] at hl
  have hu := fun W r hS => used_any w.heap.size b r W hS
  have hnew := New_yes b w hb
  have hcv := fun W => Lib.run_convert_string_bytes (P := Tryd.prog) W 9 23 5 s Tryd.underlying9 Tryd.underlying23 Tryd.underlying5
  rw [← hsz] at hu hm hnew
  have hd1 : ((s.size : Int) == (s.size : Int)) = true := by simp
  have hd2 : ((s.size : Int) != (s.size : Int)) = false := by simp
  have HU := Lib.hid hu
  have HN := Lib.hid hnew
  have HSZ := Lib.hid hsz
  clear h hu hnew hsz
  go_enter Tryd.func12, Tryd.ntmps12
  go_wp2_with fail
  refine hl.mono ?_
  clear hl
  rintro e w1 ⟨rfl, rfl⟩
  go_wp2_with fail
  refine (HN.out).mono ?_
  rintro e w2 ⟨rfl, hS, hb2⟩
  go_wp2_with fail
  refine (HU.out _ _ hS).mono ?_
  rintro e w3 ⟨rfl, rfl⟩
  go_wp2_with fail
  have hbw : Below w1.heap.size w1 (Lib.bytesWorld w2 5 s) := bstep (show Below w2.heap.size w2 (Lib.bytesWorld w2 5 s) from ⟨rfl, rfl, rfl, by rw [Lib.bytesWorld_size]; omega, fun i hi => Lib.bytesWorld_at_old w2 5 s i hi⟩) hb2
  have hSw : Sk (Lib.bytesWorld w2 5 s) w1.heap.size b (List.replicate s.size 0) := ⟨(Lib.bytesWorld_at_old w2 5 s _ hS.lt).trans hS.blk, hS.lo, hS.hi, hS.len, hS.wf⟩
  have hcb : ∀ j, j < s.size → (Lib.bytesWorld w2 5 s).cell? ⟨w2.heap.size, j, none⟩ = some (.int .u8 ((bI s).getD j 0)) := fun j hj => by rw [Lib.bytesWorld_cell w2 5 s j hj, bI_get s j hj]
  have hne : w1.heap.size < w2.heap.size := hS.lt
  have HCB := Lib.hid hcb
  clear hcb hcv
  generalize grownCap w2 s.size 0 5 = cap at *
  generalize Lib.bytesWorld w2 5 s = w3 at *
  clear hb2 hS
  clear HN HU hd1 hd2
  go_loopw [30] (fun i wr => ∃ k : Nat, k ≤ s.size ∧ i = .int .i64 k ∧ Sk wr w1.heap.size b (partTo (bI s) k) ∧ w3.grownBy wr (some w1.heap.size) ∧ ∀ j, j < k → (bI s).getD j 0 ≤ 26) (fun i _ => s.size - (intOf i).toNat)
  case atStart => exact ⟨0, Nat.zero_le _, rfl, by rw [partTo_zero, bI_len]; exact hSw, only_refl _ _, fun j hj => by omega⟩
  case round =>
    obtain ⟨k, hk, rfl, hSk, hGk, hle⟩ := hrel
    by_cases hkm : k < s.size
    · have hc := hGk.cell (HCB.out k hkm) (by simp; omega)
      have hv := bI_bd s k
      have HNB := Lib.hid (notOk_byte s k hkm)
      have hkl : k < (bI s).length := by rw [bI_len]; exact hkm
      have hsucc : ∀ v, (bI s).getD k 0 = v → (partTo (bI s) k).set k v = partTo (bI s) (k + 1) := fun v hv => partTo_succ _ k v hkl hv
      have hra := fun n h0 h1 => raise_any w1.heap.size b (partTo (bI s) k) k n wr hSk (by rw [← HSZ.out]; exact hkm) h0 h1
      rw [partTo_get _ k hkl] at hra
      have HLE := Lib.hid hle
      have HRA := Lib.hid hra
      have HSU := Lib.hid hsucc
      clear hra hsucc hle hkl
      obtain ⟨v, hv0⟩ : ∃ v, (bI s).getD k 0 = v := ⟨_, rfl⟩
      rw [hv0] at hc hv HNB
      have HV := Lib.hid hv0
      clear hv0
      have hk1 : (k : Int) < s.size := by omega
      by_cases h26 : 26 < v
      · go_wp2_with fail
        go_ret2
        refine ⟨?_, .inr ⟨HNB.out h26, rfl⟩⟩
        exact bonly hbw hGk (Nat.le_refl _)
      · go_wp2_with fail
        refine (HRA.out v hv.1 (by omega)).mono ?_
        rintro e w4 ⟨rfl, hS2, hG2⟩
        have e2 : max 0 v = v := by omega
        rw [e2, HSU.out v HV.out] at hS2
        have hG3 := only_trans hGk hG2
        go_wp2_with fail
        go_roundw
        case rel => exact ⟨k + 1, by omega, by go_num, hS2, hG3, fun j hj => by
          rcases Nat.lt_or_ge j k with h1 | h1
          · exact HLE.out j h1
          · obtain rfl : j = k := by omega
            rw [HV.out]; omega⟩
        case measure => simp [intOf]; omega
    · obtain rfl : k = s.size := by omega
      have HLE := Lib.hid hle
      clear hle
      go_wp2_with fail
      go_ret2
      refine ⟨bonly hbw hGk (Nat.le_refl _), .inl ⟨⟨⟨b, by omega, by omega, HSZ.out⟩, ?_⟩, w1.heap.size, b, rfl, Nat.le_refl _, ?_⟩⟩
      · intro x hx
        obtain ⟨j, hj, rfl⟩ := List.mem_iff_getElem.1 hx
        have := HLE.out j (by rw [← bI_len]; exact hj)
        rw [List.getD_eq_getElem?_getD, List.getElem?_eq_getElem hj] at this
        exact this
      · have e3 : partTo (bI s) s.size = bI s := by rw [← bI_len]; exact partTo_all _
        rw [e3] at hSk
        exact hSk

theorem Of_any (s : ByteArray) (w : World) (hs : s.size ≤ 9223372036854775807) : Calls Tryd.prog 12 #[.string s] w (OfPost s w) := by
  by_cases h1 : ((Lib.bitLen s.size : Nat) : Int) - 1 < 4 ∨ 10 < ((Lib.bitLen s.size : Nat) : Int) - 1
  · exact Of_bits s w hs h1
  · obtain ⟨b, hb⟩ : ∃ b, Lib.bitLen s.size = b + 1 := ⟨Lib.bitLen s.size - 1, by omega⟩
    by_cases h2 : s.size = 2 ^ b
    · exact Of_loop s b w (by omega) h2
    · exact Of_len s b w hs (by omega) hb h2
end Go.Proofs.YtjliamckoggnbaaDoor
