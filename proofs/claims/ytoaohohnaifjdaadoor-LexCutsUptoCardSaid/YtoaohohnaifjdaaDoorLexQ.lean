/- The document's Cut. -/
import Derived.Test.YtoaohohnaifjdaaDoorLexN
namespace Go.Proofs.YtoaohohnaifjdaaDoor
open Go.RowKit
set_option linter.unusedVariables false
set_option linter.unusedSimpArgs false

theorem ctl_cases (b : UInt8) : (ctl b = true ∧ (((b.toNat : Int) < 32) ∨ (¬ (b.toNat : Int) < 32 ∧ ((b.toNat : Int) == 127) = true))) ∨ (ctl b = false ∧ ¬ (b.toNat : Int) < 32 ∧ ((b.toNat : Int) == 127) = false) := by
  by_cases h1 : b.toNat < 32
  · exact .inl ⟨ctl_yes (.inl h1), .inl (by omega)⟩
  · by_cases h2 : b.toNat = 127
    · exact .inl ⟨ctl_yes (.inr h2), .inr ⟨by omega, by simp; omega⟩⟩
    · exact .inr ⟨ctl_no h1 h2, by omega, by simp; omega⟩
theorem Own.drew {k : IntKind} {e : TypeId} {w : World} {base : Nat} {A : Option Addr} {n c : Nat} {xs : List Int} (h : Own k e w base A n c xs) : Own k e w.drew base A n c xs := h.step (bdrew (Below.refl _ _))
theorem refF_back {stops : List UInt8} {b : UInt8} (hi : inB stops b = false) (h9 : (b == 92) = true) (out t : List UInt8) : refF stops false out (b :: t) = refF stops true out t := by
  rw [refF, hi, h9]; rfl
theorem refF_no {stops : List UInt8} {b : UInt8} (he : esc b = false) (out t : List UInt8) : refF stops true out (b :: t) = bad := by
  rw [refF, he]; rfl
theorem refF_yes {stops : List UInt8} {b : UInt8} (he : esc b = true) (out t : List UInt8) : refF stops true out (b :: t) = refF stops false (out ++ [b]) t := by
  rw [refF, he, esc_ctl he]; rfl
theorem refF_end (stops out : List UInt8) : refF stops true out [] = bad := by rw [refF]; rfl
set_option maxRecDepth 100000 in
set_option maxHeartbeats 4000000 in
theorem refCut_call (s stops : ByteArray) (w : World) (hs : s.size ≤ 1048576) (hst0 : stops.size ≤ 1048576) : Calls Tryd.prog 12 #[.string s, .string stops] w fun e w' => e = .returned (cutV (cutL s.data.toList stops.data.toList)) ∧ Below w.heap.size w w' := by
  obtain ⟨i0, hi0, hz0, hz1, hz2⟩ := info_parts info_u8
  have HI := Lib.hid (fun b W => in_call stops b W (by omega))
  have H92 : Hid (∀ W, Calls Tryd.prog 25 #[.string stops, .int .u8 92] W fun e w' => e = .returned (.bool (inB stops.data.toList 92)) ∧ W = w') := Lib.hid (fun W => HI.out 92 W)
  cases hst : inB stops.data.toList 92
  rotate_left
  · have hL : cutL s.data.toList stops.data.toList = ⟨[], [], 0, 1⟩ := by unfold cutL; rw [if_pos hst]
    rw [hL]
    clear hL
    go_enter Tryd.func12, Tryd.ntmps12
    go_wp2_with (go_at_call 25; refine (H92.out _).mono ?_; rw [hst]; rintro e w' ⟨rfl, rfl⟩)
    (try rw [Exit.noGoto_ret])
    (try simp only [Exit.inBlock, Exit.then])
    refine bodyPost_ret (results_tmp4 rfl _ _ _) rfl ?_
    exact ⟨rfl, Below.refl _ _⟩
  · have hL : Hid (cutL s.data.toList stops.data.toList = refF stops.data.toList false [] s.data.toList) := Lib.hid (by unfold cutL; rw [hst, ← cutF_ref _ hst]; rfl)
    generalize cutL s.data.toList stops.data.toList = R at *
    go_enter Tryd.func12, Tryd.ntmps12
    go_wp2_with (go_at_call 25; refine (H92.out _).mono ?_; rw [hst]; rintro e w' ⟨rfl, rfl⟩)
    clear H92 hst
    go_loopw [8, 9] (fun v i wr => ∃ (k m : Nat) (A : Option Addr) (c : Nat) (out : List UInt8), k ≤ s.size ∧ m ≤ k ∧ i = .int .i64 k ∧ v = .slice A m c ∧ Own .u8 5 wr w.heap.size A m c (bI out) ∧ Below w.heap.size w wr ∧ Hid (R = refF stops.data.toList false out (s.data.toList.drop k))) (fun _ i _ => s.size - (intOf i).toNat)
    case atStart => exact ⟨0, 0, none, 0, [], Nat.zero_le _, Nat.zero_le _, rfl, rfl, Own.nil, Below.refl _ _, Lib.hid hL.out⟩
    case round =>
      clear hL
      obtain ⟨k, m, A, c, out, hk, hmk, rfl, rfl, hO, hB, HR⟩ := hrel
      have hBs := hB.size
      by_cases hlt : k < s.size
      · have h1 : (k : Int) < s.size := by omega
        have HR2 : Hid (R = refF stops.data.toList false out (s[k] :: s.data.toList.drop (k + 1))) := Lib.hid (by rw [← drop_cons s k hlt]; exact HR.out)
        have HS := Lib.hid (fun W => HI.out s[k] W)
        have hcc := ctl_cases s[k]
        clear HR
        cases hi : inB stops.data.toList s[k]
        · have e92 := is92 s[k]
          cases h9 : (s[k] == 92)
          · have h9' : ((s[k].toNat : Int) == 92) = false := by rw [← e92]; exact h9
            rcases hcc with ⟨hc, hh | ⟨hh, hh2⟩⟩ | ⟨hc, hh, hh2⟩
            · have hbad : Hid (R = bad) := Lib.hid (by rw [HR2.out, refF, hi, h9, hc]; rfl)
              clear e92 h9 HR2 hc
              go_wp2_with (first | (go_at_call 25; refine (HS.out _).mono ?_; rw [hi]; rintro e w' ⟨rfl, rfl⟩))
              (try rw [Exit.noGoto_ret])
              (try simp only [Exit.inBlock, Exit.then])
              refine bodyPost_ret (results_tmp4 rfl _ _ _) rfl ?_
              exact ⟨by rw [hbad.out]; exact cutV_bad, hB⟩
            · have hbad : Hid (R = bad) := Lib.hid (by rw [HR2.out, refF, hi, h9, hc]; rfl)
              clear e92 h9 HR2 hc
              go_wp2_with (first | (go_at_call 25; refine (HS.out _).mono ?_; rw [hi]; rintro e w' ⟨rfl, rfl⟩))
              (try rw [Exit.noGoto_ret])
              (try simp only [Exit.inBlock, Exit.then])
              refine bodyPost_ret (results_tmp4 rfl _ _ _) rfl ?_
              exact ⟨by rw [hbad.out]; exact cutV_bad, hB⟩
            · have hn : Hid (R = refF stops.data.toList false (out ++ [s[k]]) (s.data.toList.drop (k + 1))) := Lib.hid (by rw [HR2.out, refF, hi, h9, hc]; rfl)
              have hwf := byte_wf s[k]
              clear e92 h9 HR2 hc
              go_wp2_with (first
                | (go_at_call 25; refine (HS.out _).mono ?_; rw [hi]; rintro e w' ⟨rfl, rfl⟩)
                | (at_builtin
                   refine wpList_app _ rfl _ _ 22 rfl 5 i0 1 .u8 Tryd.underlying22 hi0 hz0 hz1 hz2 w.heap.size A m c _ (hO.step (balloc (Below.refl _ _) _)) rfl (some ⟨wr.heap.size, 0, none⟩) 1 1 [(s[k].toNat : Int)] (ints_one (Blk.new wr _ _) hwf) rfl (by omega) (by omega) (by simp; omega) ?_
                   intro A1 c1 w4 hO1 hG1 hat1
                   have b4 := (hO.step (balloc (Below.refl _ _) _)).below (balloc hB _) (by simp; omega) hG1))
              exact ⟨⟨k + 1, m + 1, A1, c1, out ++ [s[k]], by omega, by omega, by go_num, rfl, by rw [bI_app]; exact hO1, b4, hn⟩, by simp [intOf]; omega⟩
          · have h9' : ((s[k].toNat : Int) == 92) = true := by rw [← e92]; exact h9
            clear hcc
            by_cases hl2 : k + 1 < s.size
            · have h2 : (k : Int) + 1 < s.size := by omega
              have h2' : ¬ (s.size : Int) ≤ (k : Int) + 1 := by omega
              have HE := Lib.hid (fun W => in_esc_call s[k + 1] W)
              have q1 : ((k : Int) + 1).toNat = k + 1 := by omega
              have hd2 := drop_cons s (k + 1) hl2
              cases he : esc s[k + 1]
              · have hbad : Hid (R = bad) := Lib.hid (by rw [HR2.out, refF_back hi h9, hd2, refF_no he])
                clear e92 h9 HR2 hd2
                go_wp2_with (first
                  | (go_at_call 25; ((with_reducible refine (HS.out _).mono ?_); rw [hi]; rintro e w' ⟨rfl, rfl⟩))
                  | (go_at_call 25; ((with_reducible refine (HE.out _).mono ?_); rw [he]; rintro e w' ⟨rfl, rfl⟩)))
                (try rw [Exit.noGoto_ret])
                (try simp only [Exit.inBlock, Exit.then])
                refine bodyPost_ret (results_tmp4 rfl _ _ _) rfl ?_
                exact ⟨by rw [hbad.out]; exact cutV_bad, hB⟩
              · have hc0 := esc_ctl he
                have hn : Hid (R = refF stops.data.toList false (out ++ [s[k + 1]]) (s.data.toList.drop (k + 2))) := Lib.hid (by rw [HR2.out, refF_back hi h9, hd2, refF_yes he])
                have hcc2 := ctl_cases s[k + 1]
                have hwf := byte_wf s[k + 1]
                clear e92 h9 HR2 hd2
                rcases hcc2 with ⟨hc, _⟩ | ⟨hc, hh, hh2⟩
                · rw [hc0] at hc; cases hc
                clear hc hc0
                go_wp2_with (first
                  | (go_at_call 25; ((with_reducible refine (HS.out _).mono ?_); rw [hi]; rintro e w' ⟨rfl, rfl⟩))
                  | (go_at_call 25; ((with_reducible refine (HE.out _).mono ?_); rw [he]; rintro e w' ⟨rfl, rfl⟩))
                  | (at_builtin
                     refine wpList_app _ rfl _ _ 22 rfl 5 i0 1 .u8 Tryd.underlying22 hi0 hz0 hz1 hz2 w.heap.size A m c _ (hO.step (balloc (Below.refl _ _) _)) rfl (some ⟨wr.heap.size, 0, none⟩) 1 1 [(s[k + 1].toNat : Int)] (ints_one (Blk.new wr _ _) hwf) rfl (by omega) (by omega) (by simp; omega) ?_
                     intro A1 c1 w4 hO1 hG1 hat1
                     have b4 := (hO.step (balloc (Below.refl _ _) _)).below (balloc hB _) (by simp; omega) hG1))
                exact ⟨⟨k + 2, m + 1, A1, c1, out ++ [s[k + 1]], by omega, by omega, by go_num, rfl, by rw [bI_app]; exact hO1, b4, hn⟩, by simp [intOf]; omega⟩
            · have h2 : ¬ (k : Int) + 1 < s.size := by omega
              have h2' : (s.size : Int) ≤ (k : Int) + 1 := by omega
              have hd2 : s.data.toList.drop (k + 1) = [] := List.drop_of_length_le (by simp; omega)
              have hbad : Hid (R = bad) := Lib.hid (by rw [HR2.out, refF_back hi h9, hd2, refF_end])
              clear e92 h9 HR2 hd2
              go_wp2_with (first
                | (go_at_call 25; ((with_reducible refine (HS.out _).mono ?_); rw [hi]; rintro e w' ⟨rfl, rfl⟩)))
              (try rw [Exit.noGoto_ret])
              (try simp only [Exit.inBlock, Exit.then])
              refine bodyPost_ret (results_tmp4 rfl _ _ _) rfl ?_
              exact ⟨by rw [hbad.out]; exact cutV_bad, hB⟩
        · rcases hcc with ⟨hc, hh | ⟨hh, hh2⟩⟩ | ⟨hc, hh, hh2⟩
          · have hbad : Hid (R = bad) := Lib.hid (by rw [HR2.out, refF, hi, hc]; rfl)
            clear HR2 hc
            go_wp2_with (first | (go_at_call 25; refine (HS.out _).mono ?_; rw [hi]; rintro e w' ⟨rfl, rfl⟩))
            (try rw [Exit.noGoto_ret])
            (try simp only [Exit.inBlock, Exit.then])
            refine bodyPost_ret (results_tmp4 rfl _ _ _) rfl ?_
            exact ⟨by rw [hbad.out]; exact cutV_bad, hB⟩
          · have hbad : Hid (R = bad) := Lib.hid (by rw [HR2.out, refF, hi, hc]; rfl)
            clear HR2 hc
            go_wp2_with (first | (go_at_call 25; refine (HS.out _).mono ?_; rw [hi]; rintro e w' ⟨rfl, rfl⟩))
            (try rw [Exit.noGoto_ret])
            (try simp only [Exit.inBlock, Exit.then])
            refine bodyPost_ret (results_tmp4 rfl _ _ _) rfl ?_
            exact ⟨by rw [hbad.out]; exact cutV_bad, hB⟩
          · have hn : Hid (R = ⟨out, s.data.toList.drop (k + 1), s[k], 0⟩) := Lib.hid (by rw [HR2.out, refF, hi, hc]; rfl)
            clear HR2 hc
            go_upto_region 11 with (first | (go_at_call 25; refine (HS.out _).mono ?_; rw [hi]; rintro e w' ⟨rfl, rfl⟩))
            have h2 : (k : Int) ≤ s.size := by omega
            have q1 : IntKind.i64.wrap ((k : Int) + 1) = (k : Int) + 1 := by rw [IntKind.wrap_i64]; omega
            have q2 : ((k : Int) + 1).toNat = k + 1 := by omega
            have q3 : (k : Int) + 1 ≤ s.size := by omega
            have q4 : (0 : Int) ≤ (k : Int) + 1 := by omega
            have hRE := Lib.hid (rest_eq s (k + 1))
            have hV : Hid (Ending.returned (.tuple #[.string ⟨out.toArray⟩, .string (s.extract (k + 1) s.size), .int .u8 (s[k].toNat : Int), .int .i64 0]) = .returned (cutV R)) := Lib.hid (by rw [hn.out, hRE.out]; rfl)
            have hcv := conv_own hO
            have hcv2 := conv_own hO.drew
            go_region_with fail
            all_goals
              go_wp2_with fail
              (try rw [Exit.noGoto_ret])
              (try simp only [Exit.inBlock, Exit.then])
              refine bodyPost_ret (results_tmp4 rfl _ _ _) rfl ?_
              exact ⟨hV.out, bdrew hB⟩
      · obtain rfl : k = s.size := by omega
        have h1 : ¬ (s.size : Int) < s.size := by omega
        have hd : s.data.toList.drop s.size = [] := List.drop_of_length_le (by simp)
        have hn : Hid (R = ⟨out, [], 0, 0⟩) := Lib.hid (by rw [HR.out, hd, refF]; rfl)
        clear hd
        have hcv := conv_own hO
        go_wp2_with fail
        (try rw [Exit.noGoto_ret])
        (try simp only [Exit.inBlock, Exit.then])
        refine bodyPost_ret (results_tmp4 rfl _ _ _) rfl ?_
        exact ⟨by rw [hn.out]; rfl, hB⟩
end Go.Proofs.YtoaohohnaifjdaaDoor
