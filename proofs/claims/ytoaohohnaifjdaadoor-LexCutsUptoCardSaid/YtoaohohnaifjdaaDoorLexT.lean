/- The document's Lines. -/
import Derived.Test.YtoaohohnaifjdaaDoorLexI
import Derived.Test.YtoaohohnaifjdaaDoorLexN
namespace Go.Proofs.YtoaohohnaifjdaaDoor
open Go.RowKit
set_option linter.unusedVariables false
set_option linter.unusedSimpArgs false

theorem ext_list (s : ByteArray) (i j : Nat) : (s.extract i j).data.toList = (s.data.toList.drop i).take (j - i) := by simp
theorem str_of {a : ByteArray} {l : List UInt8} (h : a.data.toList = l) : a = ⟨l.toArray⟩ := by rw [← h, str_back]
theorem part (s : ByteArray) (st k : Nat) (h : st ≤ k) : s.data.toList.drop st = (s.data.toList.drop st).take (k - st) ++ s.data.toList.drop k := by
  conv => lhs; rw [← List.take_append_drop (k - st) (s.data.toList.drop st)]
  rw [List.drop_drop, show st + (k - st) = k by omega]
theorem take_one' (s : ByteArray) (st k : Nat) (h : st ≤ k) (hk : k < s.size) : (s.data.toList.drop st).take (k + 1 - st) = (s.data.toList.drop st).take (k - st) ++ [s[k]] := by
  have hl : s.data.toList.length = s.size := by simp
  rw [show k + 1 - st = (k - st) + 1 by omega, List.take_succ_eq_append_getElem (by rw [List.length_drop]; omega), List.getElem_drop]
  congr 2
  rw [str_get s k hk]
  congr 1
  omega
/-- What is left to do, and what is kept. -/
def LInv (s : ByteArray) (R : List (List UInt8)) (k st : Nat) (ls : List (List UInt8)) : Prop :=
  (k ≤ s.size ∧ (10 : UInt8) ∉ (s.data.toList.drop st).take (k - st) ∧ R = ls ++ linesL (s.data.toList.drop st)) ∨ (k = s.size + 1 ∧ R = ls)
theorem linv0 (s : ByteArray) : LInv s (linesL s.data.toList) 0 0 [] := .inl ⟨Nat.zero_le _, by simp, by simp⟩
theorem linv_go {s : ByteArray} {R : List (List UInt8)} {k st : Nat} {ls : List (List UInt8)} (h : LInv s R k st ls) (hst : st ≤ k) (hk : k < s.size) (h10 : s[k] ≠ 10) : LInv s R (k + 1) st ls := by
  rcases h with ⟨h1, h2, h3⟩ | ⟨h1, _⟩
  · refine .inl ⟨by omega, ?_, h3⟩
    rw [take_one' s st k hst hk, List.mem_append, List.mem_singleton]
    rintro (h | h)
    · exact h2 h
    · exact h10 h.symm
  · omega
theorem linv_cut {s : ByteArray} {R : List (List UInt8)} {k st : Nat} {ls : List (List UInt8)} (h : LInv s R k st ls) (hst : st ≤ k) (hk : k ≤ s.size) (h10 : ∀ h : k < s.size, s[k] = 10) : LInv s R (k + 1) (k + 1) (ls ++ if keepL (trimCR (s.extract st k).data.toList) then [trimCR (s.extract st k).data.toList] else []) := by
  rcases h with ⟨h1, h2, h3⟩ | ⟨h1, _⟩
  · rw [ext_list, h3, part s st k hst]
    have hl : s.data.toList.length = s.size := by simp
    rcases Nat.lt_or_ge k s.size with hlt | hge
    · refine .inl ⟨by omega, by simp, ?_⟩
      have hd := drop_cons s k hlt
      rw [h10 hlt] at hd
      rw [List.take_append_of_le_length (by rw [List.length_take, List.length_drop]; omega), List.take_take, Nat.min_self, hd, linesL_some _ h2, List.append_assoc]
    · refine .inr ⟨by omega, ?_⟩
      have hd : s.data.toList.drop k = [] := List.drop_of_length_le (by omega)
      rw [hd, List.append_nil, List.take_take, Nat.min_self, linesL_none h2]
  · omega
theorem linv_end {s : ByteArray} {R : List (List UInt8)} {k st : Nat} {ls : List (List UInt8)} (h : LInv s R k st ls) (hk : ¬ k ≤ s.size) : R = ls := by
  rcases h with ⟨h1, _⟩ | ⟨_, h⟩
  · exact absurd h1 hk
  · exact h
theorem last_get (z : ByteArray) (h : z.size - 1 < z.size) : z.data.toList.getLast? = some (z[z.size - 1]'h) := by
  rw [List.getLast?_eq_getElem?, str_get z _ h]
  have hl : z.data.toList.length = z.size := by simp
  rw [List.getElem?_eq_getElem (by omega)]
  congr 2
theorem trim_13 (z : ByteArray) (h : z.size - 1 < z.size) (h13 : (z[z.size - 1]'h).toNat = 13) : z.extract 0 (z.size - 1) = ⟨(trimCR z.data.toList).toArray⟩ := by
  refine str_of ?_
  have e : z[z.size - 1]'h = 13 := UInt8.toNat_inj.1 h13
  have hl : z.data.toList.length = z.size := by simp
  unfold trimCR
  rw [if_pos (by rw [last_get z h, e]), ext_list, List.dropLast_eq_take, hl]
  rfl
theorem trim_no (z : ByteArray) (h : z.size - 1 < z.size) (h13 : (z[z.size - 1]'h).toNat ≠ 13) : z = ⟨(trimCR z.data.toList).toArray⟩ := by
  refine str_of ?_
  unfold trimCR
  rw [if_neg]
  rw [last_get z h]
  intro e
  exact h13 (by rw [Option.some.inj e]; rfl)
theorem trim_0 (z : ByteArray) (h : z.data.toList = []) : z = ⟨(trimCR z.data.toList).toArray⟩ := by
  refine str_of ?_
  rw [h]; rfl

theorem trim_cases (z : ByteArray) : (z.data.toList = [] ∧ z = ⟨(trimCR z.data.toList).toArray⟩) ∨ (z.data.toList ≠ [] ∧ ∃ h : z.size - 1 < z.size, (((z[z.size - 1]'h).toNat : Int) == 13) = true ∧ z.extract 0 (z.size - 1) = ⟨(trimCR z.data.toList).toArray⟩) ∨ (z.data.toList ≠ [] ∧ ∃ h : z.size - 1 < z.size, (((z[z.size - 1]'h).toNat : Int) == 13) = false ∧ z = ⟨(trimCR z.data.toList).toArray⟩) := by
  by_cases hz0 : z.data.toList = []
  · exact .inl ⟨hz0, trim_0 z hz0⟩
  · have hl : z.data.toList.length = z.size := by simp
    have hzp : 0 < z.size := by
      rcases Nat.eq_zero_or_pos z.size with h | h
      · exact absurd (List.eq_nil_of_length_eq_zero (by omega)) hz0
      · exact h
    have hzl : z.size - 1 < z.size := by omega
    by_cases h13 : (z[z.size - 1]'hzl).toNat = 13
    · exact .inr (.inl ⟨hz0, hzl, by simp; omega, trim_13 z hzl h13⟩)
    · exact .inr (.inr ⟨hz0, hzl, by simp; omega, trim_no z hzl h13⟩)
theorem keep_35 (b0 : UInt8) (P0 : List UInt8) : ((b0.toNat : Int) != 35) = keepL (b0 :: P0) := by
  have h1 : (b0 == 35) = decide (b0.toNat = 35) := u8_eq b0 35 (by omega)
  unfold keepL
  rw [Bool.eq_iff_iff]
  simp
  constructor
  · intro h e; subst e; exact h rfl
  · intro h e; exact h (UInt8.toNat_inj.1 (by rw [show (35 : UInt8).toNat = 35 from rfl]; omega))
set_option maxRecDepth 100000 in
set_option maxHeartbeats 4000000 in
theorem refLines_call (s : ByteArray) (w : World) (hs : s.size ≤ 1048576) : Calls Tryd.prog 15 #[.string s] w fun e w' => ∃ A n c, e = .returned (.slice A n c) ∧ w'.ownsRow w.heap.size 9 1 (.slice A n c) n (strs (linesL s.data.toList)) ∧ Below w.heap.size w w' := by
  obtain ⟨i0, hi0, hz0, hz1, hz2⟩ := info_parts info_str
  have hL0 := Lib.hid (linv0 s)
  generalize linesL s.data.toList = R at *
  go_enter Tryd.func15, Tryd.ntmps15
  go_wp2_with fail
  go_loopw [3, 4, 5] (fun v o i wr => ∃ (k st m : Nat) (A : Option Addr) (c : Nat) (ls : List (List UInt8)), k ≤ s.size + 1 ∧ m ≤ k ∧ st ≤ k ∧ i = .int .i64 k ∧ o = .int .i64 st ∧ v = .slice A m c ∧ wr.ownsRow w.heap.size 9 1 (.slice A m c) m (strs ls) ∧ Below w.heap.size w wr ∧ Hid (LInv s R k st ls)) (fun _ _ i _ => s.size + 1 - (intOf i).toNat)
  case atStart => exact ⟨0, 0, 0, none, 0, [], Nat.zero_le _, Nat.zero_le _, Nat.zero_le _, rfl, rfl, rfl, World.ownsRow_nil _ _ _ _, Below.refl _ _, hL0⟩
  case round =>
    clear hL0
    obtain ⟨k, st, m, A, c, ls, hk, hmk, hstk, rfl, rfl, rfl, hO, hB, HI⟩ := hrel
    have hBs := hB.size
    by_cases hle : k ≤ s.size
    · have h1 : (k : Int) ≤ s.size := by omega
      by_cases hgo : ∃ h : k < s.size, s[k] ≠ 10
      · obtain ⟨hlt, h10⟩ := hgo
        have HN := Lib.hid (linv_go HI.out hstk hlt h10)
        have h2 : (k : Int) < s.size := by omega
        have g1 : ((s[k].toNat : Int) != 10) = true := by
          have : s[k].toNat ≠ 10 := fun e => h10 (UInt8.toNat_inj.1 e)
          simp; omega
        clear h10 HI
        go_wp2_with fail
        exact ⟨⟨k + 1, st, m, A, c, ls, by omega, by omega, by omega, by go_num, rfl, rfl, hO, hB, HN⟩, by simp [intOf]; omega⟩
      · have h10 : ∀ h : k < s.size, s[k] = 10 := fun h => Classical.byContradiction fun e => hgo ⟨h, e⟩
        have HN := Lib.hid (linv_cut HI.out hstk hle h10)
        have hzs : (s.extract st k).size ≤ 1048576 := by rw [ByteArray.size_extract]; omega
        have hst1 : (st : Int) ≤ k := by omega
        have hg : (¬ (k : Int) < s.size) ∨ ((k : Int) < s.size ∧ ∃ h : k < s.size, ((s[k].toNat : Int) != 10) = false) := by
          rcases Nat.lt_or_ge k s.size with h | h
          · exact .inr ⟨by omega, h, by rw [h10 h]; rfl⟩
          · exact .inl (by omega)
        clear hgo h10 HI
        rcases hg with h2 | ⟨h2, hlt, g1⟩
        all_goals
          go_upto_region 9 with fail
          generalize s.extract st k = z at *
          have q5 : (z.size : Int) ≤ 1048576 := by omega
          rcases trim_cases z with ⟨hz0, e⟩ | ⟨hz0, hzl, h13, e⟩ | ⟨hz0, hzl, h13, e⟩
          · have y1 : z.toList.isEmpty = true := by rw [Lib.toList_data, hz0]; rfl
            have y2 : z.toList = [] := by rw [Lib.toList_data, hz0]
            have HE := Lib.hid e
            clear hz0 e
            go_upto_region 11 with fail
            clear y1 y2
            rw [HE.out]
            have hyl : (trimCR z.data.toList).length ≤ 1048576 := by
              have := trimCR_len z.data.toList
              have hl : z.data.toList.length = z.size := by simp
              omega
            obtain ⟨y, hy⟩ : ∃ y : ByteArray, (⟨(trimCR z.data.toList).toArray⟩ : ByteArray) = y := ⟨_, rfl⟩
            rw [hy]
            generalize trimCR z.data.toList = Y at *
            cases Y with
            | nil =>
              have y1 : y.toList.isEmpty = true := by rw [← hy, Lib.toList_data]; rfl
              have y2 : y.toList = [] := by rw [← hy, Lib.toList_data]
              clear hy
              go_wp2_with fail
              exact ⟨⟨k + 1, k + 1, m, A, c, ls, by omega, by omega, by omega, by go_num, by go_num, rfl, hO, hB, Lib.hid (by have := HN.out; simpa [keepL] using this)⟩, by simp [intOf]; omega⟩
            | cons b0 P0 =>
              have y0 : 0 < y.size := by rw [← hy]; simp [ByteArray.size]
              have y1 : y.toList.isEmpty = false := by rw [← hy, Lib.toList_data]; rfl
              have y2 : ¬ y.toList = [] := by rw [← hy, Lib.toList_data]; simp
              have y3 : (y[0]'y0).toNat = b0.toNat := first_byte b0 P0 y hy y0
              have y4 : (0 : Int) < y.size := by omega
              have hst : Hid (strs [b0 :: P0] = [Value.string y]) := Lib.hid (by rw [← hy]; rfl)
              have h35 := keep_35 b0 P0
              clear hy
              generalize b0.toNat = bv at *
              cases hkp : keepL (b0 :: P0)
              · rw [hkp] at h35 HN
                clear hkp
                go_wp2_with fail
                exact ⟨⟨k + 1, k + 1, m, A, c, ls, by omega, by omega, by omega, by go_num, by go_num, rfl, hO, hB, Lib.hid (by have := HN.out; simpa using this)⟩, by simp [intOf]; omega⟩
              · rw [hkp] at h35 HN
                clear hkp
                go_wp2_with (at_builtin; refine wpList_append_own_at _ rfl _ _ 31 rfl w.heap.size 9 i0 _ 1 16 Tryd.underlying31 hi0 hz0 hz1 hz2 rfl (by omega) (.slice A m c) m _ rfl (hO.alloc _) ⟨wr.heap.size, 0, none⟩ 1 1 [.string y] rfl rfl (cell_one_new _ _ _) (by simp [Value.oneCell']) (by simp only [maxLen]; omega) (by omega) (by simp; omega) ?_; intro v' w5 hown5 hG5 hnil5 hat5; obtain ⟨A5, c5, rfl⟩ := str_form hown5)
                exact ⟨⟨k + 1, k + 1, m + 1, A5, c5, ls ++ [b0 :: P0], by omega, by omega, by omega, by go_num, by go_num, rfl, by rw [strs_app, hst.out]; exact hown5, bgrown (balloc hB _) hG5 (fun q hq => (hO.lt q hq).1), Lib.hid (by have := HN.out; simpa using this)⟩, by simp [intOf]; omega⟩
          · have y1 : z.toList.isEmpty = false := by rw [Lib.toList_data]; simpa using hz0
            have y2 : ¬ z.toList = [] := by rw [Lib.toList_data]; exact hz0
            have q1 : ((z.size : Int) - 1).toNat = z.size - 1 := by omega
            have q2 : (0 : Int) ≤ (z.size : Int) - 1 := by omega
            have q3 : (z.size : Int) - 1 < z.size := by omega
            have q4 : wrap64 ((z.size : Int) - 1) = (z.size : Int) - 1 := by unfold wrap64; omega
            have HE := Lib.hid e
            clear hz0 e
            go_upto_region 11 with fail
            clear y1 y2 q4 h13
            rw [HE.out]
            have hyl : (trimCR z.data.toList).length ≤ 1048576 := by
              have := trimCR_len z.data.toList
              have hl : z.data.toList.length = z.size := by simp
              omega
            obtain ⟨y, hy⟩ : ∃ y : ByteArray, (⟨(trimCR z.data.toList).toArray⟩ : ByteArray) = y := ⟨_, rfl⟩
            rw [hy]
            generalize trimCR z.data.toList = Y at *
            cases Y with
            | nil =>
              have y1 : y.toList.isEmpty = true := by rw [← hy, Lib.toList_data]; rfl
              have y2 : y.toList = [] := by rw [← hy, Lib.toList_data]
              clear hy
              go_wp2_with fail
              exact ⟨⟨k + 1, k + 1, m, A, c, ls, by omega, by omega, by omega, by go_num, by go_num, rfl, hO, hB, Lib.hid (by have := HN.out; simpa [keepL] using this)⟩, by simp [intOf]; omega⟩
            | cons b0 P0 =>
              have y0 : 0 < y.size := by rw [← hy]; simp [ByteArray.size]
              have y1 : y.toList.isEmpty = false := by rw [← hy, Lib.toList_data]; rfl
              have y2 : ¬ y.toList = [] := by rw [← hy, Lib.toList_data]; simp
              have y3 : (y[0]'y0).toNat = b0.toNat := first_byte b0 P0 y hy y0
              have y4 : (0 : Int) < y.size := by omega
              have hst : Hid (strs [b0 :: P0] = [Value.string y]) := Lib.hid (by rw [← hy]; rfl)
              have h35 := keep_35 b0 P0
              clear hy
              generalize b0.toNat = bv at *
              cases hkp : keepL (b0 :: P0)
              · rw [hkp] at h35 HN
                clear hkp
                go_wp2_with fail
                exact ⟨⟨k + 1, k + 1, m, A, c, ls, by omega, by omega, by omega, by go_num, by go_num, rfl, hO, hB, Lib.hid (by have := HN.out; simpa using this)⟩, by simp [intOf]; omega⟩
              · rw [hkp] at h35 HN
                clear hkp
                go_wp2_with (at_builtin; refine wpList_append_own_at _ rfl _ _ 31 rfl w.heap.size 9 i0 _ 1 16 Tryd.underlying31 hi0 hz0 hz1 hz2 rfl (by omega) (.slice A m c) m _ rfl (hO.alloc _) ⟨wr.heap.size, 0, none⟩ 1 1 [.string y] rfl rfl (cell_one_new _ _ _) (by simp [Value.oneCell']) (by simp only [maxLen]; omega) (by omega) (by simp; omega) ?_; intro v' w5 hown5 hG5 hnil5 hat5; obtain ⟨A5, c5, rfl⟩ := str_form hown5)
                exact ⟨⟨k + 1, k + 1, m + 1, A5, c5, ls ++ [b0 :: P0], by omega, by omega, by omega, by go_num, by go_num, rfl, by rw [strs_app, hst.out]; exact hown5, bgrown (balloc hB _) hG5 (fun q hq => (hO.lt q hq).1), Lib.hid (by have := HN.out; simpa using this)⟩, by simp [intOf]; omega⟩
          · have y1 : z.toList.isEmpty = false := by rw [Lib.toList_data]; simpa using hz0
            have y2 : ¬ z.toList = [] := by rw [Lib.toList_data]; exact hz0
            have q1 : ((z.size : Int) - 1).toNat = z.size - 1 := by omega
            have q2 : (0 : Int) ≤ (z.size : Int) - 1 := by omega
            have q3 : (z.size : Int) - 1 < z.size := by omega
            have q4 : wrap64 ((z.size : Int) - 1) = (z.size : Int) - 1 := by unfold wrap64; omega
            have HE := Lib.hid e
            clear hz0 e
            go_upto_region 11 with fail
            clear y1 y2 q4 h13
            generalize (z[z.size - 1]'hzl).toNat = bb
            rw [HE.out]
            have hyl : (trimCR z.data.toList).length ≤ 1048576 := by
              have := trimCR_len z.data.toList
              have hl : z.data.toList.length = z.size := by simp
              omega
            obtain ⟨y, hy⟩ : ∃ y : ByteArray, (⟨(trimCR z.data.toList).toArray⟩ : ByteArray) = y := ⟨_, rfl⟩
            rw [hy]
            generalize trimCR z.data.toList = Y at *
            cases Y with
            | nil =>
              have y1 : y.toList.isEmpty = true := by rw [← hy, Lib.toList_data]; rfl
              have y2 : y.toList = [] := by rw [← hy, Lib.toList_data]
              clear hy
              go_wp2_with fail
              exact ⟨⟨k + 1, k + 1, m, A, c, ls, by omega, by omega, by omega, by go_num, by go_num, rfl, hO, hB, Lib.hid (by have := HN.out; simpa [keepL] using this)⟩, by simp [intOf]; omega⟩
            | cons b0 P0 =>
              have y0 : 0 < y.size := by rw [← hy]; simp [ByteArray.size]
              have y1 : y.toList.isEmpty = false := by rw [← hy, Lib.toList_data]; rfl
              have y2 : ¬ y.toList = [] := by rw [← hy, Lib.toList_data]; simp
              have y3 : (y[0]'y0).toNat = b0.toNat := first_byte b0 P0 y hy y0
              have y4 : (0 : Int) < y.size := by omega
              have hst : Hid (strs [b0 :: P0] = [Value.string y]) := Lib.hid (by rw [← hy]; rfl)
              have h35 := keep_35 b0 P0
              clear hy
              generalize b0.toNat = bv at *
              cases hkp : keepL (b0 :: P0)
              · rw [hkp] at h35 HN
                clear hkp
                go_wp2_with fail
                exact ⟨⟨k + 1, k + 1, m, A, c, ls, by omega, by omega, by omega, by go_num, by go_num, rfl, hO, hB, Lib.hid (by have := HN.out; simpa using this)⟩, by simp [intOf]; omega⟩
              · rw [hkp] at h35 HN
                clear hkp
                go_wp2_with (at_builtin; refine wpList_append_own_at _ rfl _ _ 31 rfl w.heap.size 9 i0 _ 1 16 Tryd.underlying31 hi0 hz0 hz1 hz2 rfl (by omega) (.slice A m c) m _ rfl (hO.alloc _) ⟨wr.heap.size, 0, none⟩ 1 1 [.string y] rfl rfl (cell_one_new _ _ _) (by simp [Value.oneCell']) (by simp only [maxLen]; omega) (by omega) (by simp; omega) ?_; intro v' w5 hown5 hG5 hnil5 hat5; obtain ⟨A5, c5, rfl⟩ := str_form hown5)
                exact ⟨⟨k + 1, k + 1, m + 1, A5, c5, ls ++ [b0 :: P0], by omega, by omega, by omega, by go_num, by go_num, rfl, by rw [strs_app, hst.out]; exact hown5, bgrown (balloc hB _) hG5 (fun q hq => (hO.lt q hq).1), Lib.hid (by have := HN.out; simpa using this)⟩, by simp [intOf]; omega⟩
    · have h1 : ¬ (k : Int) ≤ s.size := by omega
      have hR : Hid (R = ls) := Lib.hid (linv_end HI.out hle)
      go_wp2_with fail
      go_ret
      exact ⟨A, m, c, rfl, by rw [hR.out]; exact hO, hB⟩
end Go.Proofs.YtoaohohnaifjdaaDoor
