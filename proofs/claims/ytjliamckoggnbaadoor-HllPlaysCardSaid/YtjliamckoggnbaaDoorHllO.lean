/- The walk of HllOf: it returns true, whatever it is given; what lay in memory stays. -/
import Derived.Test.YtjliamckoggnbaaDoorHllV
import Derived.StillTailTactics
import Derived.Deep.CutBlock
import Derived.Deep.DeepCutAuto
namespace Go.Proofs.YtjliamckoggnbaaDoor
open Go.RowKit
set_option linter.unusedVariables false
set_option linter.unusedSimpArgs false

theorem pow_inj2 (b b' : Nat) (h : b ≤ 10) (h' : b' ≤ 10) (e : 2 ^ b = 2 ^ b') : b = b' := by
  rcases Nat.lt_trichotomy b b' with h1 | h1 | h1
  · have := Nat.pow_lt_pow_right (a := 2) (by omega) h1; omega
  · exact h1
  · have := Nat.pow_lt_pow_right (a := 2) (by omega) h1; omega
theorem str_bI (s : ByteArray) : strOfNums (bI s) = s := by
  have h : (strOfNums (bI s)).data.toList = s.data.toList := by
    rw [strOfNums_data, bI, List.map_map]
    conv => rhs; rw [← List.map_id s.data.toList]
    refine List.map_congr_left (fun x hx => ?_)
    simp
  have h2 : (strOfNums (bI s)).data = s.data := by
    rw [← Array.toArray_toList (xs := (strOfNums (bI s)).data), h]
  cases hs : strOfNums (bI s) with
  | mk d => rw [hs] at h2; cases s; simp at h2; rw [h2]

theorem isEmpty_size (s : ByteArray) : s.toList.isEmpty = decide (s.size = 0) := by
  rw [Lib.toList_data, show s.size = s.data.toList.length by rw [Array.length_toList]; rfl]
  cases s.data.toList <;> simp

theorem conv_cells (W : World) (bk off n c : Nat) (xs : List Int) (hl : xs.length = n) (h : ∀ i, i < n → W.cell? ⟨bk, off + i, none⟩ = some (.int .u8 (xs.getD i 0))) :
    (convert 23 9 (.slice (some ⟨bk, off, none⟩) n c)).run Tryd.prog W = .ok (.string (strOfNums xs)) W :=
  run_convert_bytes_arg (P := Tryd.prog) _ 23 5 Tryd.underlying23 Tryd.underlying5 bk off n c xs hl h 9 Tryd.underlying9

theorem bytes_frozen (w : World) (e : TypeId) (s : ByteArray) (k : Nat) (hk : k < s.size) : (Lib.bytesWorld w e s).frozen? ⟨w.heap.size, k, none⟩ = false := by
  have h := Lib.bytesWorld_at_new w e s
  have hl : s.size ≤ (Lib.bytesCells w e s).size := by
    simp only [Lib.bytesCells, Array.size_append, Array.size_map]
    show s.data.size ≤ _
    omega
  simp only [World.frozen?, h]
  simp
  omega

set_option maxRecDepth 100000 in
set_option maxHeartbeats 2000000 in
theorem bend_any (s : ByteArray) (at_ by_ : Int) (w : World) (hs : s.size ≤ 1024) (hat : -9223372036854775808 ≤ at_ ∧ at_ ≤ 9223372036854775807) (hby : 0 ≤ by_ ∧ by_ ≤ 255) :
    Calls Tryd.prog 11 #[.string s, .int .i64 at_, .int .u8 by_] w fun e w' => ∃ s' : ByteArray, e = .returned (.string s') ∧ s'.size ≤ 1024 ∧ Below w.heap.size w w' := by
  have hem := isEmpty_size s
  by_cases h0 : s.size = 0
  · rw [decide_eq_true h0] at hem
    go_enter Tryd.func11, Tryd.ntmps11
    go_wp2_with fail
    go_ret
    exact ⟨s, rfl, hs, Below.refl _ _⟩
  · rw [decide_eq_false h0] at hem
    obtain ⟨u, hu⟩ : ∃ u, u = (if at_ < 0 then -(at_ + 1) else at_) := ⟨_, rfl⟩
    have hu0 : 0 ≤ u ∧ u ≤ 9223372036854775807 := by subst hu; split <;> omega
    have hcv := Lib.run_convert_string_bytes (P := Tryd.prog) w 9 23 5 s Tryd.underlying9 Tryd.underlying23 Tryd.underlying5
    have hcc := Lib.bytesWorld_cell w 5 s
    have hcf := bytes_frozen w 5 s
    have hB : Below w.heap.size w (Lib.bytesWorld w 5 s) := ⟨rfl, rfl, rfl, by rw [Lib.bytesWorld_size]; omega, fun i hi => Lib.bytesWorld_at_old w 5 s i hi⟩
    generalize Lib.bytesWorld w 5 s = wb at *
    generalize grownCap w s.size 0 5 = cp at *
    generalize hn : s.size = n at *
    obtain ⟨k, hk⟩ := Int.eq_ofNat_of_zero_le (Int.emod_nonneg u (b := (n : Int)) (by omega))
    have hkn : k < n := by have := Int.emod_lt_of_pos u (b := (n : Int)) (by omega); omega
    have hkt : u.tmod (n : Int) = (k : Int) := by rw [Int.tmod_eq_emod_of_nonneg hu0.1, hk]
    have ck := hcc k hkn
    have fk := hcf k hkn
    generalize hv : (s.data.toList.getD k 0).toNat = v at *
    obtain ⟨V, hV⟩ : ∃ V, bits .xor .u8 (v : Int) by_ = V := ⟨_, rfl⟩
    have HCC := Lib.hid hcc
    have HN := Lib.hid hn
    have HU := Lib.hid hu
    clear hcc hcf hv hn hu hk
    have hn1 : (n : Int) ≠ 0 := by omega
    by_cases ha : at_ < 0
    · have ea : -(at_ + 1) = u := by rw [HU.out, if_pos ha]
      go_enter Tryd.func11, Tryd.ntmps11
      go_wp2_with fail
      go_still_tail 15, (by kernel_rfl)
      change wpList _ _ _ _ _ wb.drew
      have ck2 : wb.drew.cell? ⟨w.heap.size, k, none⟩ = some (.int .u8 v) := ck
      have fk2 : wb.drew.frozen? ⟨w.heap.size, k, none⟩ = false := fk
      have hconv := conv_cells (wb.drew.setCell ⟨w.heap.size, k, none⟩ (.int .u8 V)) w.heap.size 0 n cp ((bI s).set k V) (by rw [List.length_set, bI_len, HN.out]) (fun i hi => by
        rw [Nat.zero_add]
        by_cases hik : i = k
        · subst hik
          rw [World.cell?_setCell_same (v := .int .u8 V) (h := ck2), getD_set _ _ _ _ (by rw [bI_len, HN.out]; exact hi), if_pos rfl]
        · rw [World.cell?_setCell_other (v := .int .u8 V) (h := by intro e; injection e with _ e _; exact hik e.symm), getD_set _ _ _ _ (by rw [bI_len, HN.out]; exact hkn), if_neg hik, bI_get s i (by rw [HN.out]; exact hi)]
          exact HCC.out i hi)
      have hBd : Below w.heap.size w (wb.drew.setCell ⟨w.heap.size, k, none⟩ (.int .u8 V)) := bset (bdrew hB) (Nat.le_refl _) _
      have hsz : (strOfNums ((bI s).set k V)).size ≤ 1024 := by rw [strOfNums_size, List.length_set, bI_len, HN.out]; exact hs
      generalize strOfNums ((bI s).set k V) = S at *
      generalize wb.drew = w2 at *
      go_wp2_with fail
      go_ret
      exact ⟨_, rfl, hsz, hBd⟩
    · have ea : at_ = u := by rw [HU.out, if_neg ha]
      subst ea
      go_enter Tryd.func11, Tryd.ntmps11
      go_wp2_with fail
      go_still_tail 15, (by kernel_rfl)
      change wpList _ _ _ _ _ wb.drew
      have ck2 : wb.drew.cell? ⟨w.heap.size, k, none⟩ = some (.int .u8 v) := ck
      have fk2 : wb.drew.frozen? ⟨w.heap.size, k, none⟩ = false := fk
      have hconv := conv_cells (wb.drew.setCell ⟨w.heap.size, k, none⟩ (.int .u8 V)) w.heap.size 0 n cp ((bI s).set k V) (by rw [List.length_set, bI_len, HN.out]) (fun i hi => by
        rw [Nat.zero_add]
        by_cases hik : i = k
        · subst hik
          rw [World.cell?_setCell_same (v := .int .u8 V) (h := ck2), getD_set _ _ _ _ (by rw [bI_len, HN.out]; exact hi), if_pos rfl]
        · rw [World.cell?_setCell_other (v := .int .u8 V) (h := by intro e; injection e with _ e _; exact hik e.symm), getD_set _ _ _ _ (by rw [bI_len, HN.out]; exact hkn), if_neg hik, bI_get s i (by rw [HN.out]; exact hi)]
          exact HCC.out i hi)
      have hBd : Below w.heap.size w (wb.drew.setCell ⟨w.heap.size, k, none⟩ (.int .u8 V)) := bset (bdrew hB) (Nat.le_refl _) _
      have hsz : (strOfNums ((bI s).set k V)).size ≤ 1024 := by rw [strOfNums_size, List.length_set, bI_len, HN.out]; exact hs
      generalize strOfNums ((bI s).set k V) = S at *
      generalize wb.drew = w2 at *
      go_wp2_with fail
      go_ret
      exact ⟨_, rfl, hsz, hBd⟩

theorem put_bytes {w : World} {g : Nat} {t : TypeId} {xs : List Int} (h : Blk w g t (xs.map (Value.int .u8)).toArray) (j : Nat) (V : Int) : Blk (w.setCell ⟨g, j, none⟩ (.int .u8 V)) g t ((xs.set j V).map (Value.int .u8)).toArray := by
  have h2 := h.put j (.int .u8 V)
  rw [List.setIfInBounds_toArray, ← List.map_set] at h2
  exact h2
theorem get_bytes {w : World} {g : Nat} {t : TypeId} {xs : List Int} (h : Blk w g t (xs.map (Value.int .u8)).toArray) (j : Nat) (hj : j < xs.length) : w.cell? ⟨g, j, none⟩ = some (.int .u8 (xs.getD j 0)) := by
  refine h.cellAt j ?_
  simp [List.getD_eq_getElem?_getD, List.getElem?_eq_getElem hj]
theorem made_bytes (m : Nat) : madeCells #[Value.int .u8 0] m = ((List.replicate m (0 : Int)).map (Value.int .u8)).toArray := by
  have h1 : (madeCells #[Value.int .u8 0] m).toList = List.replicate m (Value.int .u8 0) := toList_madeCells_one _ _
  have h2 : madeCells #[Value.int .u8 0] m = (madeCells #[Value.int .u8 0] m).toList.toArray := by simp
  rw [h2, h1]
  simp

set_option maxRecDepth 100000 in
set_option maxHeartbeats 2000000 in
theorem of_walk (s : ByteArray) (bits : Int) (own : Bool) (at_ by_ : Int) (w : World) (hT : Tab w) (hs : s.size ≤ 9223372036854775807) (h1 : 0 ≤ bits ∧ bits ≤ 255) (hat : -9223372036854775808 ≤ at_ ∧ at_ ≤ 9223372036854775807) (hby : 0 ≤ by_ ∧ by_ ≤ 255) :
    Calls Tryd.prog 3 #[.string s, .int .u8 bits, .bool own, .int .i64 at_, .int .u8 by_] w fun e w' => e = .returned (.bool true) ∧ Below w.heap.size w w' := by
  obtain ⟨b, hb⟩ := Int.eq_ofNat_of_zero_le (show 0 ≤ 4 + bits % 7 by omega)
  have hb2 : b = 4 ∨ b = 5 ∨ b = 6 ∨ b = 7 ∨ b = 8 ∨ b = 9 ∨ b = 10 := by omega
  have hbl : (4 : Int) ≤ b ∧ (b : Int) ≤ 10 := by omega
  have hsh := shl1i b hb2
  have hsw := shlw b hb2
  clear hb2
  have hm : 2 ^ b ≤ 1024 := by have := Nat.pow_le_pow_right (n := 2) (by omega) (show b ≤ 10 by omega); simpa using this
  have hm2 : 16 ≤ 2 ^ b := by have := Nat.pow_le_pow_right (n := 2) (by omega) (show 4 ≤ b by omega); simpa using this
  generalize 2 ^ b = m at *
  have hmk := run_make_row' (P := Tryd.prog) 23 5 (.int .u8 0) 1 Tryd.underlying23 info_u8 rfl .i64 .i64 m (by omega) (by omega)
  rw [made_bytes] at hmk
  have hem := isEmpty_size s
  go_enter Tryd.func3, Tryd.ntmps3
  go_wp2_with fail
  refine (examples_any _ hT).mono ?_
  rintro e w1 ⟨rfl, b1⟩
  go_upto_if 20 with fail
  go_cut [0] (fun v wx => ∃ S : ByteArray, v = .string S ∧ S.size ≤ 9223372036854775807 ∧ Below w.heap.size w wx)
  case first =>
    cases own
    · go_wp2_with fail
      go_meet
      exact ⟨s, rfl, hs, b1⟩
    · go_wp2_with fail
      have hB0 : Blk (w1.alloc (.cells (Array.replicate m (Value.int .u8 0)) 5)) w1.heap.size 5 ((List.replicate m (0 : Int)).map (Value.int .u8)).toArray := by
        have e : Array.replicate m (Value.int .u8 0) = ((List.replicate m (0 : Int)).map (Value.int .u8)).toArray := by simp
        rw [e]
        exact Blk.new _ _ _
      have hb0 := balloc b1 (.cells (Array.replicate m (Value.int .u8 0)) 5)
      have hg := b1.size
      clear hmk
      generalize w1.alloc (.cells (Array.replicate m (Value.int .u8 0)) 5) = wa at *
      generalize w1.heap.size = g at *
      go_loopw [13] (fun i wr => ∃ (j : Nat) (xs : List Int), j ≤ m ∧ i = .int .i64 j ∧ xs.length = m ∧ Blk wr g 5 (xs.map (Value.int .u8)).toArray ∧ Below w.heap.size w wr) (fun i _ => m - (intOf i).toNat)
      case atStart => exact ⟨0, _, Nat.zero_le _, rfl, by simp, hB0, hb0⟩
      case round =>
        obtain ⟨j, xs, hj, rfl, hl, hC, hB⟩ := hrel
        by_cases hjm : j < m ∧ s.size ≠ 0
        · obtain ⟨hjm, hs0⟩ := hjm
          rw [decide_eq_false hs0] at hem
          have hj1 : (j : Int) < m := by omega
          have hc := get_bytes hC j (by omega)
          have hf := hC.frozen j
          have hq := Nat.mod_lt j (show 0 < s.size by omega)
          have hr : (j : Int).tmod (s.size : Int) = ((j % s.size : Nat) : Int) := by
            rw [Int.tmod_eq_emod_of_nonneg (Int.natCast_nonneg _)]; simp
          have hr2 : (j : Int) % (s.size : Int) = ((j % s.size : Nat) : Int) := by simp
          have hq1 : ((j % s.size : Nat) : Int) < (s.size : Int) := by omega
          generalize j % s.size = k at *
          have hn1 : (s.size : Int) ≠ 0 := by omega
          have HL := Lib.hid hl
          clear hl hs0
          generalize xs.getD j 0 = old at *
          go_wp2_with fail
          go_roundw
          case rel => exact ⟨j + 1, xs.set j _, by omega, by go_num, by rw [List.length_set, HL.out], put_bytes hC j _, bset hB hg _⟩
          case measure => simp [intOf]; omega
        · have hconv := conv_cells wr g 0 m m xs hl (fun i hi => by rw [Nat.zero_add]; exact get_bytes hC i (by omega))
          have hsz : (strOfNums xs).size ≤ 1024 := by rw [strOfNums_size, hl]; exact hm
          generalize strOfNums xs = X at *
          have hj2 : (j < m ∧ s.size = 0) ∨ j = m := by omega
          clear hl hC
          rcases hj2 with ⟨hj3, hs0⟩ | rfl
          · rw [decide_eq_true hs0] at hem
            have hj1 : (j : Int) < m := by omega
            clear hs0
            go_wp2_with fail
            refine (bend_any X at_ by_ _ hsz hat hby).mono ?_
            rintro e w9 ⟨S', rfl, hS', b9⟩
            go_wp2_with fail
            go_meet
            exact ⟨S', rfl, by omega, bstep b9 hB⟩
          · have hj1 : ¬ (j : Int) < j := by omega
            go_wp2_with fail
            refine (bend_any X at_ by_ _ hsz hat hby).mono ?_
            rintro e w9 ⟨S', rfl, hS', b9⟩
            go_wp2_with fail
            go_meet
            exact ⟨S', rfl, by omega, bstep b9 hB⟩
  case rest =>
    obtain ⟨S, rfl, hS, hB⟩ := hcut
    clear hmk hem hsh hsw
    have hstr := str_bI S
    go_wp2_with fail
    refine (Of_any S _ hS).mono ?_
    rintro e w2 ⟨b2, h2⟩
    replace hB := bstep b2 hB
    have b2' := b2
    clear b2
    rcases h2 with ⟨hok, gx, bx, rfl, hgx, hSx⟩ | ⟨hno, rfl⟩
    · go_wp2_with fail
      refine (ROf_any S _ hS).mono ?_
      rintro e w3 ⟨b3, h3⟩
      rcases h3 with ⟨_, gr, yr, br, rfl, _, _, hR⟩ | ⟨hno, rfl⟩
      · have hbb : bx = br := pow_inj2 bx br hSx.hi hR.hi (by rw [← hSx.len, ← hR.len])
        subst hbb
        replace hSx := Sk.step b3 hSx
        replace hB := bstep b3 hB
        clear b3
        have HSTR := Lib.hid hstr
        clear hstr
        go_wp2_with fail
        refine (Registers_any gx bx _ _ hSx).mono ?_
        rintro e w4 ⟨rfl, rfl⟩
        rw [HSTR.out]
        go_wp2_with fail
        refine (Estimate_any gx bx _ _ hSx).mono ?_
        rintro e w5 ⟨rfl, b5⟩
        replace hSx := Sk.step b5 hSx
        replace hR := hR.step b5
        replace hB := bstep b5 hB
        clear b5
        go_wp2_with fail
        refine (REstimate_any gr yr bx _ _ hR).mono ?_
        rintro e w6 ⟨rfl, b6⟩
        replace hSx := Sk.step b6 hSx
        replace hR := hR.step b6
        replace hB := bstep b6 hB
        clear b6
        go_wp2_with fail
        refine (Bits_any gx bx _ _ hSx).mono ?_
        rintro e w7 ⟨rfl, rfl⟩
        go_wp2_with fail
        refine (RBits_any gr yr bx _ _ hR).mono ?_
        rintro e w8 ⟨rfl, b8⟩
        replace hB := bstep b8 hB
        go_wp2_with fail
        go_ret
        exact ⟨rfl, hB⟩
      · exact absurd hok hno
    · go_wp2_with fail
      refine (ROf_any S _ hS).mono ?_
      rintro e w3 ⟨b3, h3⟩
      rcases h3 with ⟨hok, _⟩ | ⟨_, rfl⟩
      · exact absurd hok hno
      · replace hB := bstep b3 hB
        go_wp2_with fail
        go_ret
        exact ⟨rfl, hB⟩
theorem hllOf_row (s : ByteArray) (bits : Int) (own : Bool) (at_ by_ : Int) (w : World) (hs : s.size ≤ maxLen) (h1 : (Lit.int .u8 bits).wf = true) (h2 : (Lit.int .i64 at_).wf = true) (h3 : (Lit.int .u8 by_).wf = true) (hT : Tab w) :
    Calls Tryd.prog 3 #[.string s, .int .u8 bits, .bool own, .int .i64 at_, .int .u8 by_] w fun e w' => e = .returned (.bool true) ∧ Below w.heap.size w w' :=
  of_walk s bits own at_ by_ w hT (by have : maxLen = 9223372036854775807 := by decide
                                      omega) (bounds_u8 h1) (bounds_i64 h2) (bounds_u8 h3)
end Go.Proofs.YtjliamckoggnbaaDoor
