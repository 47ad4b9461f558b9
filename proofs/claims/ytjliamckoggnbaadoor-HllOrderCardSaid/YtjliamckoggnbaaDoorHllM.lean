/- The walk of HllMerge: it returns true, whatever it is given; what lay in memory stays. -/
import Derived.Test.YtjliamckoggnbaaDoorHllFew
import Derived.Test.YtjliamckoggnbaaDoorHllW
import Derived.Test.YtjliamckoggnbaaDoorApp
namespace Go.Proofs.YtjliamckoggnbaaDoor
open Go.RowKit
set_option linter.unusedVariables false
set_option linter.unusedSimpArgs false

theorem info_u64 : (Tryd.prog.info? 32).map (fun i => (i.zero, i.size, i.bytes)) = some (some (.int .u64 0), 1, 8) := by kernel_rfl

theorem pow_inj (b b' : Nat) (h : b ≤ 10) (h' : b' ≤ 10) (e : 2 ^ b = 2 ^ b') : b = b' := by
  rcases Nat.lt_trichotomy b b' with h1 | h1 | h1
  · have := Nat.pow_lt_pow_right (a := 2) (by omega) h1; omega
  · exact h1
  · have := Nat.pow_lt_pow_right (a := 2) (by omega) h1; omega

/-- Of the registers of a sketch there is a sketch of the same bits and registers. -/
theorem Of_regs (g b : Nat) (r : List Int) (w : World) (h : Sk w g b r) :
    Calls Tryd.prog 12 #[.string (strOfNums r)] w fun e w' => ∃ g', e = .returned (.tuple #[.pointer (some ⟨g', 0, none⟩), .int .i64 0]) ∧ w.heap.size ≤ g' ∧ Sk w' g' b r ∧ Below w.heap.size w w' := by
  have hI : bI (strOfNums r) = r := bI_str r (fun x hx => by have := h.wf x hx; omega)
  have hsz : (strOfNums r).size = 2 ^ b := by rw [strOfNums_size, h.len]
  have hm : 2 ^ b ≤ 1024 := by have := Nat.pow_le_pow_right (n := 2) (by omega) h.hi; simpa using this
  refine (Of_any (strOfNums r) w (by omega)).mono ?_
  rintro e w' ⟨hb, ⟨_, g', b', rfl, hg, hS⟩ | ⟨hno, _⟩⟩
  · rw [hI] at hS
    have e1 : b = b' := pow_inj b b' h.hi hS.hi (by rw [← h.len, ← hS.len])
    subst e1
    exact ⟨g', rfl, hg, hS, hb⟩
  · exact absurd ⟨⟨b, h.lo, h.hi, hsz⟩, fun x hx => by rw [hI] at hx; exact (h.wf x hx).2⟩ hno

set_option maxRecDepth 100000 in
set_option maxHeartbeats 2000000 in
theorem merge_walk (bits : Int) (a : Option Addr) (len cap : Nat) (xs : List Int) (a2 : Option Addr) (len2 cap2 : Nat) (ys : List Int) (w : World) (hT : Tab w) (h1 : 0 ≤ bits ∧ bits ≤ 255)
    (hx : Ints .u64 w a len xs) (hlc : len ≤ cap) (hl : len ≤ 140737488351232) (hy : Ints .u64 w a2 len2 ys) (hlc2 : len2 ≤ cap2) (hl2 : len2 ≤ 140737488351232) :
    Calls Tryd.prog 8 #[.int .u8 bits, .slice a len cap, .slice a2 len2 cap2] w fun e w' => e = .returned (.bool true) ∧ Below w.heap.size w w' := by
  obtain ⟨b, hb⟩ := Int.eq_ofNat_of_zero_le (show 0 ≤ 4 + bits % 7 by omega)
  have hb2 : b = 4 ∨ b = 5 ∨ b = 6 ∨ b = 7 ∨ b = 8 ∨ b = 9 ∨ b = 10 := by omega
  have hbl : (4 : Int) ≤ b ∧ (b : Int) ≤ 10 := by omega
  have HB2 := Lib.hid hb2
  clear hb2
  go_enter Tryd.func8, Tryd.ntmps8
  go_wp2_with fail
  refine (examples_any _ hT).mono ?_
  rintro e w1 ⟨rfl, b1⟩
  go_wp2_with fail
  obtain ⟨l, hl0⟩ : ∃ l, min len 50 = l := ⟨_, rfl⟩
  obtain ⟨l2, hl20⟩ : ∃ l, min len2 50 = l := ⟨_, rfl⟩
  have e1 : min (len : Int) 50 = (l : Int) := by omega
  have e2 : min (len2 : Int) 50 = (l2 : Int) := by omega
  rw [e1, e2, Int.toNat_natCast, Int.toNat_natCast]
  replace hx := hx.take l (by omega)
  replace hy := hy.take l2 (by omega)
  replace hlc : l ≤ cap := by omega
  replace hlc2 : l2 ≤ cap2 := by omega
  have hl50 : l ≤ 50 ∧ l2 ≤ 50 := by omega
  generalize xs.take l = zs at *
  generalize ys.take l2 = vs at *
  clear hl0 hl20 e1 e2 hl hl2
  obtain ⟨i0, hi0, hz0, hz1, hz2⟩ := info_parts info_u64
  refine (fed_any b a l cap zs _ HB2.out (hT.step b1) (hx.step b1) (by omega)).mono ?_
  rintro e w2 ⟨rfl, s2, b2⟩
  rw [List.take_of_length_le (by rw [hx.len]; omega)] at s2
  have hB := bstep b2 b1
  have hg1 : w.heap.size ≤ w1.heap.size := b1.size
  generalize w1.heap.size = g at *
  clear b1 b2
  go_wp2_with fail
  refine (fed_any b a2 l2 cap2 vs _ HB2.out (hT.step hB) (hy.step hB) (by omega)).mono ?_
  rintro e w3 ⟨rfl, s3, b3⟩
  rw [List.take_of_length_le (by rw [hy.len]; omega)] at s3
  have hgg : g < w2.heap.size := s2.lt
  have hg2 : w.heap.size ≤ w2.heap.size := by omega
  replace s2 := Sk.step b3 s2
  replace hB := bstep b3 hB
  generalize w2.heap.size = g2 at *
  clear b3
  have hbs := hB.size
  have hlt2 := s2.lt
  have hlt3 := s3.lt
  obtain ⟨b', hb'⟩ := Int.eq_ofNat_of_zero_le (show 0 ≤ 4 + (bits + 1) % 7 by omega)
  have hb2' : b' = 4 ∨ b' = 5 ∨ b' = 6 ∨ b' = 7 ∨ b' = 8 ∨ b' = 9 ∨ b' = 10 := by omega
  have hbb : b ≠ b' := by omega
  have HB3 := Lib.hid hb2'
  clear hb2'
  go_wp2_with (first
    | (at_builtin
       refine wpList_app _ rfl (.const (.slice none 0 0)) _ 36 rfl 32 i0 8 .u64 Tryd.underlying36 hi0 hz0 hz1 hz2 w.heap.size none 0 0 [] Own.nil rfl a l cap zs (hx.step hB) rfl (by omega) (by omega) hbs ?_
       intro A1 c1 w4 hO1 hG1 hat1
       have b4 := (Own.nil (k := .u64) (e := 32) (w := w3) (base := w.heap.size)).below hB hbs hG1
       have hbs4 := b4.size
       replace hO1 : Own .u64 32 w4 w.heap.size A1 l c1 zs := by rw [Nat.zero_add] at hO1; exact hO1
       replace s2 := Sk.grown hG1 s2 (by simp [Value.ownBlock])
       replace s3 := Sk.grown hG1 s3 (by simp [Value.ownBlock])
       have hy4 := hy.step b4
       rw [Nat.zero_add] at hat1)
    | (at_builtin
       refine wpList_app _ rfl _ _ 36 rfl 32 i0 8 .u64 Tryd.underlying36 hi0 hz0 hz1 hz2 w.heap.size A1 l c1 zs hO1 rfl a2 l2 cap2 vs hy4 rfl (by omega) (by omega) hbs4 ?_
       intro A2 c2 w5 hO2 hG2 hat2
       have b5 := hO1.below b4 hbs4 hG2
       replace s2 := Sk.grown hG2 s2 (by rcases hat1 with e | e <;> rw [e] <;> simp [Value.ownBlock]; omega)
       replace s3 := Sk.grown hG2 s3 (by rcases hat1 with e | e <;> rw [e] <;> simp [Value.ownBlock]; omega)))
  clear hG1 hG2 hat1 hat2 hO1 b4 hy4
  refine (fed_any b A2 (l + l2) c2 _ _ HB2.out (hT.step b5) hO2.ints (by omega)).mono ?_
  rintro e w6 ⟨rfl, s6, b6⟩
  rw [List.take_of_length_le (by rw [hO2.len]; omega)] at s6
  have hg6 : g2 < w5.heap.size := s3.lt
  replace s2 := Sk.step b6 s2
  replace s3 := Sk.step b6 s3
  replace hB := bstep b6 b5
  generalize w5.heap.size = g6 at *
  clear b6 b5 hO2
  go_wp2_with fail
  refine (fed_any b' a2 l2 cap2 vs _ HB3.out (hT.step hB) (hy.step hB) (by omega)).mono ?_
  rintro e w7 ⟨rfl, s7, b7⟩
  have hg7 : g6 < w6.heap.size := s6.lt
  replace s2 := Sk.step b7 s2
  replace s3 := Sk.step b7 s3
  replace s6 := Sk.step b7 s6
  replace hB := bstep b7 hB
  generalize w6.heap.size = g7 at *
  clear b7
  go_wp2_with fail
  refine (Registers_any g b _ _ s2).mono ?_
  rintro e w8 ⟨rfl, rfl⟩
  go_wp2_with fail
  refine (Merge_no g g7 b b' _ _ _ s2 s7 hbb).mono ?_
  rintro e w8 ⟨rfl, b8⟩
  replace s2 := Sk.step b8 s2
  replace s3 := Sk.step b8 s3
  replace s6 := Sk.step b8 s6
  replace hB := bstep b8 hB
  clear b8 s7
  go_wp2_with fail
  refine (Merge_self g b _ _ s2).mono ?_
  rintro e w9 ⟨rfl, s9, g9⟩
  clear s2
  replace s3 := Sk.grown g9 s3 (by simp; omega)
  replace s6 := Sk.grown g9 s6 (by simp; omega)
  replace hB := bonly hB g9 hg1
  clear g9
  go_wp2_with fail
  refine (Registers_any g b _ _ s9).mono ?_
  rintro e w10 ⟨rfl, rfl⟩
  go_wp2_with fail
  refine (Merge_yes g g2 b _ _ _ s9 s3 (by omega)).mono ?_
  rintro e w10 ⟨rfl, s10, g10⟩
  rw [merge_law] at s10
  replace s6 := Sk.grown g10 s6 (by simp; omega)
  replace hB := bonly hB g10 hg1
  clear g10 s9 s3
  generalize feed b (zeros b) (zs ++ vs) = R at *
  go_wp2_with fail
  refine (Registers_any g b _ _ s10).mono ?_
  rintro e w11 ⟨rfl, rfl⟩
  go_wp2_with fail
  refine (Of_regs g b R _ s10).mono ?_
  rintro e w12 ⟨gx, rfl, hgx, s12, b12⟩
  replace s6 := Sk.step b12 s6
  replace s10 := Sk.step b12 s10
  replace hB := bstep b12 hB
  clear b12
  go_wp2_with fail
  refine (Registers_any g b _ _ s10).mono ?_
  rintro e w13 ⟨rfl, rfl⟩
  go_wp2_with fail
  refine (Registers_any g6 b _ _ s6).mono ?_
  rintro e w13 ⟨rfl, rfl⟩
  go_wp2_with fail
  refine (Estimate_any g b _ _ s10).mono ?_
  rintro e w14 ⟨rfl, b14⟩
  replace s6 := Sk.step b14 s6
  replace s10 := Sk.step b14 s10
  replace s12 := Sk.step b14 s12
  replace hB := bstep b14 hB
  clear b14
  go_wp2_with fail
  refine (Estimate_any g6 b _ _ s6).mono ?_
  rintro e w15 ⟨rfl, b15⟩
  replace s10 := Sk.step b15 s10
  replace s12 := Sk.step b15 s12
  replace hB := bstep b15 hB
  clear b15
  go_wp2_with fail
  refine (Estimate_any gx b _ _ s12).mono ?_
  rintro e w16 ⟨rfl, b16⟩
  replace s10 := Sk.step b16 s10
  replace hB := bstep b16 hB
  clear b16
  go_wp2_with fail
  refine (Estimate_any g b _ _ s10).mono ?_
  rintro e w17 ⟨rfl, b17⟩
  replace hB := bstep b17 hB
  go_wp2_with fail
  go_ret
  exact ⟨rfl, hB⟩
theorem hllMerge_row (bits : Int) (a : Option Addr) (len cap : Nat) (xs : List Int) (a2 : Option Addr) (len2 cap2 : Nat) (ys : List Int) (w : World) (h1 : (Lit.int .u8 bits).wf = true) (hx : Ints .u64 w a len xs) (hc : len ≤ cap) (hl : len * 8 ≤ 140737488351232)
    (hy : Ints .u64 w a2 len2 ys) (hc2 : len2 ≤ cap2) (hl2 : len2 * 8 ≤ 140737488351232) (hT : Tab w) :
    Calls Tryd.prog 8 #[.int .u8 bits, .slice a len cap, .slice a2 len2 cap2] w fun e w' => e = .returned (.bool true) ∧ Below w.heap.size w w' :=
  merge_walk bits a len cap xs a2 len2 cap2 ys w hT (bounds_u8 h1) hx hc (by omega) hy hc2 (by omega)
end Go.Proofs.YtjliamckoggnbaaDoor
