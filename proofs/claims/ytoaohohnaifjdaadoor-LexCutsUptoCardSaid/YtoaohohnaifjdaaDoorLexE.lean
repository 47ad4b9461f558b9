/- Bytes that the call made; the law's plain texts; two lists of strings. -/
import Derived.Test.YtoaohohnaifjdaaDoorLexL
import Derived.Lib.BufferRead
namespace Go.Proofs.YtoaohohnaifjdaaDoor
open Go.RowKit
set_option linter.unusedVariables false
set_option linter.unusedSimpArgs false

theorem info_u8 : (Tryd.prog.info? 5).map (fun i => (i.zero, i.size, i.bytes)) = some (some (.int .u8 0), 1, 1) := by kernel_rfl
def bI (l : List UInt8) : List Int := l.map fun b => (b.toNat : Int)
theorem bI_app (a b : List UInt8) : bI (a ++ b) = bI a ++ bI b := by simp [bI]
theorem bI_len (a : List UInt8) : (bI a).length = a.length := by simp [bI]
theorem strOf_bI (l : List UInt8) : strOfNums (bI l) = ⟨l.toArray⟩ := by
  unfold strOfNums bI
  congr 1
  rw [List.map_map]
  have e : List.map ((fun n => UInt8.ofNat n.toNat) ∘ fun b : UInt8 => (b.toNat : Int)) l = l := by
    conv => rhs; rw [← List.map_id l]
    exact List.map_congr_left (fun x _ => by simp)
  rw [e]
theorem byte_wf (b : UInt8) : (Lit.int .u8 (b.toNat : Int)).wf = true := by
  have := b.toNat_lt
  simp [Lit.wf, IntKind.min, IntKind.max, IntKind.signed, IntKind.bits]
  omega
theorem conv_ints (W : World) (bk off : Nat) (n c : Nat) (xs : List Int) (h : Ints .u8 W (some ⟨bk, off, none⟩) n xs) (h0 : 0 < n) :
    (convert 22 9 (.slice (some ⟨bk, off, none⟩) n c)).run Tryd.prog W = .ok (.string (strOfNums xs)) W := by
  obtain ⟨bk', off', ha, hlt, hc⟩ := h.at_ h0
  obtain ⟨rfl, rfl⟩ : bk' = bk ∧ off' = off := by injection ha with ha; injection ha with h1 h2; exact ⟨h1.symm, h2.symm⟩
  exact run_convert_bytes_arg (P := Tryd.prog) _ 22 5 Tryd.underlying22 Tryd.underlying5 bk' off' n c xs h.len (fun i hi => hc i hi) 9 Tryd.underlying9
/-- A row of bytes of the call's own, as a text. -/
theorem conv_own {W : World} {base : Nat} {A : Option Addr} {n c : Nat} {l : List UInt8} (h : Own .u8 5 W base A n c (bI l)) : (convert 22 9 (.slice A n c)).run Tryd.prog W = .ok (.string ⟨l.toArray⟩) W := by
  have hn := h.len
  rw [bI_len] at hn
  rcases h.own.2 with ⟨e1, e2⟩ | ⟨g, cap, cur, e1, hb, hg, hnc, hcm, hcs, ht⟩
  · injection e1 with a1 a2 a3
    subst a1 a2 a3
    have hl : l = [] := List.eq_nil_of_length_eq_zero hn
    subst hl
    exact Lib.run_convert_nil_bytes W 22 9 5 0 Tryd.underlying22 Tryd.underlying5 Tryd.underlying9
  · injection e1 with a1 a2 a3
    subst a1 a3
    have := run_convert_bytes_arg (P := Tryd.prog) W 22 5 Tryd.underlying22 Tryd.underlying5 g 0 n c (bI l) h.len (fun i hi => by
      obtain ⟨b', off', ha, _, hc⟩ := h.ints.at_ (by omega)
      cases ha
      exact hc i hi) 9 Tryd.underlying9
    rw [strOf_bI] at this
    exact this

/-- The law's plain text: at most 60 bytes looked at, the control bytes left out. -/
def plS (l : List UInt8) : List UInt8 := (l.take 60).filter fun b => !ctl b
theorem plS_plain (l : List UInt8) : plainL (plS l) = true := by
  unfold plainL plS
  rw [List.all_eq_true]
  intro b hb
  exact (List.mem_filter.1 hb).2
theorem plS_len (l : List UInt8) : (plS l).length ≤ 60 := by
  unfold plS
  have h1 := List.length_filter_le (fun b => !ctl b) (l.take 60)
  rw [List.length_take] at h1
  omega
theorem pl_snoc (s : ByteArray) (k : Nat) (h : k < s.size) : (s.data.toList.take (k + 1)).filter (fun b => !ctl b) = (s.data.toList.take k).filter (fun b => !ctl b) ++ (if ctl s[k] then [] else [s[k]]) := by
  rw [take_snocB s k h, List.filter_append]
  congr 1
  cases hc : ctl s[k] <;> simp [hc]

set_option maxRecDepth 100000 in
set_option maxHeartbeats 1000000 in
theorem plain_law (s : ByteArray) (w : World) (hs : s.size ≤ 9223372036854775807) : Calls Tryd.prog 20 #[.string s] w fun e w' => e = .returned (.string ⟨(plS s.data.toList).toArray⟩) ∧ Below w.heap.size w w' := by
  obtain ⟨i0, hi0, hz0, hz1, hz2⟩ := info_parts info_u8
  go_enter Tryd.func20, Tryd.ntmps20
  go_wp2_with fail
  go_loopw [3, 4] (fun v i wr => ∃ (k m : Nat) (A : Option Addr) (c : Nat), k ≤ s.size ∧ k ≤ 60 ∧ m ≤ k ∧ i = .int .i64 k ∧ v = .slice A m c ∧ Own .u8 5 wr w.heap.size A m c (bI ((s.data.toList.take k).filter fun b => !ctl b)) ∧ Below w.heap.size w wr) (fun _ i _ => s.size - (intOf i).toNat)
  case atStart => exact ⟨0, 0, none, 0, Nat.zero_le _, Nat.zero_le _, Nat.zero_le _, rfl, rfl, Own.nil, Below.refl _ _⟩
  case round =>
    obtain ⟨k, m, A, c, hk, h60, hmk, rfl, rfl, hO, hB⟩ := hrel
    have hBs := hB.size
    by_cases hc : k < s.size ∧ k < 60
    · obtain ⟨hlt, hlt6⟩ := hc
      have h1 : (k : Int) < s.size := by omega
      have h2 : (k : Int) < 60 := by omega
      have HS := Lib.hid (pl_snoc s k hlt)
      have hwf := byte_wf s[k]
      have hcn := ctl_nat s[k]
      generalize (s.data.toList.take k).filter (fun b => !ctl b) = L at *
      by_cases hc1 : s[k].toNat < 32
      · have g1 : ¬ (32 : Int) ≤ s[k].toNat := by omega
        have hn : Hid ((s.data.toList.take (k + 1)).filter (fun b => !ctl b) = L) := Lib.hid (by rw [HS.out, ctl_yes (.inl hc1)]; simp)
        clear hcn hwf
        go_wp2_with fail
        go_roundw
        case rel => exact ⟨k + 1, m, A, c, by omega, by omega, by omega, by go_num, rfl, by rw [hn.out]; exact hO, hB⟩
        case measure => simp [intOf]; omega
      · have g1 : (32 : Int) ≤ s[k].toNat := by omega
        by_cases hc2 : s[k].toNat = 127
        · have g2 : ((s[k].toNat : Int) != 127) = false := by simp; omega
          have hn : Hid ((s.data.toList.take (k + 1)).filter (fun b => !ctl b) = L) := Lib.hid (by rw [HS.out, ctl_yes (.inr hc2)]; simp)
          clear hcn hwf hc2
          go_wp2_with fail
          go_roundw
          case rel => exact ⟨k + 1, m, A, c, by omega, by omega, by omega, by go_num, rfl, by rw [hn.out]; exact hO, hB⟩
          case measure => simp [intOf]; omega
        · have g2 : ((s[k].toNat : Int) != 127) = true := by simp; omega
          have hn : Hid ((s.data.toList.take (k + 1)).filter (fun b => !ctl b) = L ++ [s[k]]) := Lib.hid (by rw [HS.out, ctl_no hc1 hc2]; simp)
          clear hcn hc2
          go_wp2_with (first
            | (at_builtin
               refine wpList_app _ rfl _ _ 22 rfl 5 i0 1 .u8 Tryd.underlying22 hi0 hz0 hz1 hz2 w.heap.size A m c _ (hO.step (balloc (Below.refl _ _) _)) rfl (some ⟨wr.heap.size, 0, none⟩) 1 1 [(s[k].toNat : Int)] (ints_one (Blk.new wr _ _) hwf) rfl (by omega) (by omega) (by simp; omega) ?_
               intro A1 c1 w4 hO1 hG1 hat1
               have b4 := (hO.step (balloc (Below.refl _ _) _)).below (balloc hB _) (by simp; omega) hG1))
          go_roundw
          case rel => exact ⟨k + 1, m + 1, A1, c1, by omega, by omega, by omega, by go_num, rfl, by rw [hn.out, bI_app]; exact hO1, b4⟩
          case measure => simp [intOf]; omega
    · have htk : Hid ((s.data.toList.take k).filter (fun b => !ctl b) = plS s.data.toList) := Lib.hid (by
        unfold plS
        congr 1
        rcases Nat.lt_or_ge k 60 with h | h
        · have e : k = s.size := by omega
          rw [List.take_of_length_le (by simp; omega), List.take_of_length_le (by simp; omega)]
        · have e : k = 60 := by omega
          rw [e])
      rw [htk.out] at hO
      have hcv := conv_own hO
      have hend : (¬ (k : Int) < s.size) ∨ ((k : Int) < s.size ∧ ¬ (k : Int) < 60) := by omega
      rcases hend with c1 | ⟨c1, c2⟩
      all_goals
        go_wp2_with fail
        go_ret
        exact ⟨rfl, hB⟩
end Go.Proofs.YtoaohohnaifjdaaDoor
