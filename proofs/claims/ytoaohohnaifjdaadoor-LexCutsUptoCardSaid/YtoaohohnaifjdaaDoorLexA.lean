/- has, control, Plain. -/
import Derived.Test.YtoaohohnaifjdaaDoorLexP
import Derived.Test.YtoaohohnaifjdaaDoorShelf
import Derived.Test.YtoaohohnaifjdaaDoorApp
import Derived.Lib.IndexLaws
namespace Go.Proofs.YtoaohohnaifjdaaDoor
open Go.RowKit
set_option linter.unusedVariables false
set_option linter.unusedSimpArgs false

theorem ctl_nat (b : UInt8) : ctl b = (decide (b.toNat < 32) || decide (b.toNat = 127)) := by
  unfold ctl
  congr 1
  rw [Bool.eq_iff_iff]
  simp only [beq_iff_eq, decide_eq_true_eq]
  exact ⟨fun h => by subst h; rfl, fun h => UInt8.toNat_inj.1 h⟩
theorem ctl_yes {b : UInt8} (h : b.toNat < 32 ∨ b.toNat = 127) : ctl b = true := by
  rw [ctl_nat]; simpa using h
theorem ctl_no {b : UInt8} (h : ¬ b.toNat < 32) (h2 : ¬ b.toNat = 127) : ctl b = false := by
  rw [ctl_nat]; simp [h, h2]
theorem control_call (b : UInt8) (w : World) : Calls Tryd.prog 22 #[.int .u8 (b.toNat : Int)] w fun e w' => e = .returned (.bool (ctl b)) ∧ w = w' := by
  by_cases h : b.toNat < 32
  · rw [ctl_yes (.inl h)]
    generalize b.toNat = n at *
    have h1 : (n : Int) < 32 := by omega
    go_enter Tryd.func22, Tryd.ntmps22
    go_wp2_with fail
    go_ret
    exact ⟨rfl, rfl⟩
  · have h1 : ¬ (b.toNat : Int) < 32 := by omega
    by_cases h2 : b.toNat = 127
    · rw [ctl_yes (.inr h2)]
      rw [h2]
      go_enter Tryd.func22, Tryd.ntmps22
      go_wp2_with fail
      go_ret
      exact ⟨rfl, rfl⟩
    · rw [ctl_no h h2]
      generalize b.toNat = n at *
      have h3 : ((n : Int) == 127) = false := by simp; omega
      go_enter Tryd.func22, Tryd.ntmps22
      go_wp2_with fail
      go_ret
      exact ⟨rfl, rfl⟩
theorem byte_back (b : UInt8) : (b.toNat : Int).toNat.toUInt8 = b := by simp
theorem index_in (l : List UInt8) (c : UInt8) : decide (0 ≤ Lib.indexByte l c) = inB l c := by
  unfold inB
  rw [Bool.eq_iff_iff]
  simp only [decide_eq_true_eq, List.contains_iff_mem]
  constructor
  · intro h
    obtain ⟨o, ho⟩ : ∃ o : Nat, Lib.indexByte l c = o := ⟨(Lib.indexByte l c).toNat, by omega⟩
    exact List.mem_of_getElem? (Lib.indexByte_some ho).1
  · intro h
    have hge := Lib.indexByte_ge l c
    obtain ⟨k, hk⟩ := List.mem_iff_getElem?.1 h
    have hne : Lib.indexByte l c ≠ -1 := fun e => Lib.indexByte_none e k hk
    omega
theorem has_call (s : ByteArray) (b : UInt8) (w : World) : Calls Tryd.prog 21 #[.string s, .int .u8 (b.toNat : Int)] w fun e w' => e = .returned (.bool (inB s.data.toList b)) ∧ w = w' := by
  rw [← index_in]
  have hI := Tryd.strings_IndexByte s (b.toNat : Int) w
  rw [byte_back] at hI
  generalize Lib.indexByte s.data.toList b = v at *
  have HI := Lib.hid hI
  clear hI
  by_cases h : 0 ≤ v
  · rw [decide_eq_true h]
    go_enter Tryd.func21, Tryd.ntmps21
    go_wp2_with (go_at_call 29; refine HI.out.mono ?_; rintro e w' ⟨rfl, rfl⟩)
    go_ret
    exact ⟨rfl, rfl⟩
  · rw [decide_eq_false h]
    have h2 : v < 0 := by omega
    go_enter Tryd.func21, Tryd.ntmps21
    go_wp2_with (go_at_call 29; refine HI.out.mono ?_; rintro e w' ⟨rfl, rfl⟩)
    go_ret
    exact ⟨ret_bool (by simp; omega), rfl⟩

theorem plain_take {l : List UInt8} (k : Nat) (hk : k < l.length) (h : plainL (l.take k) = true) (hc : ctl l[k] = false) : plainL (l.take (k + 1)) = true := by
  rw [List.take_succ_eq_append_getElem hk, plain_append, h]
  simp [plainL, hc]
theorem plain_hit {l : List UInt8} (k : Nat) (hk : k < l.length) (hc : ctl l[k] = true) : plainL l = false := by
  cases h : plainL l with
  | false => rfl
  | true =>
    unfold plainL at h
    rw [List.all_eq_true] at h
    have := h _ (List.getElem_mem hk)
    rw [hc] at this
    cases this
theorem str_get (s : ByteArray) (k : Nat) (h : k < s.size) : s[k] = s.data.toList[k]'(by simpa using h) := by
  show s.data[k] = _
  simp
set_option maxHeartbeats 400000 in
theorem plain_call (s : ByteArray) (w : World) (hs : s.size ≤ 9223372036854775807) : Calls Tryd.prog 18 #[.string s] w fun e w' => e = .returned (.bool (plainL s.data.toList)) ∧ w = w' := by
  go_enter Tryd.func18, Tryd.ntmps18
  go_wp2_with fail
  go_loop [6] (fun i => ∃ k : Nat, k ≤ s.size ∧ i = .int .i64 k ∧ Hid (plainL (s.data.toList.take k) = true)) (fun i => s.size - (intOf i).toNat)
  case atStart => exact ⟨0, Nat.zero_le _, rfl, Lib.hid rfl⟩
  case round =>
    obtain ⟨k, hk, rfl, hp⟩ := hrel
    by_cases hlt : k < s.size
    · have h1 : (k : Int) < s.size := by omega
      have hb := str_get s k hlt
      have hkl : k < s.data.toList.length := by simpa using hlt
      have hyes : Hid (ctl s[k] = true → plainL s.data.toList = false) := Lib.hid (fun h => plain_hit k hkl (by rw [← hb]; exact h))
      have hno : Hid (ctl s[k] = false → plainL (s.data.toList.take (k + 1)) = true) := Lib.hid (fun h => plain_take k hkl hp.out (by rw [← hb]; exact h))
      have hC := Lib.hid (fun w => control_call s[k] w)
      clear hb
      cases hc : ctl s[k]
      · have hn := Lib.hid (hno.out hc)
        go_wp2_with (go_at_call 22; refine (hC.out _).mono ?_; rw [hc]; rintro e w' ⟨rfl, rfl⟩)
        go_round
        case rel => exact ⟨k + 1, by omega, by go_num, hn⟩
        case measure => simp [intOf]; omega
      · have hy := Lib.hid (hyes.out hc)
        go_wp2_with (go_at_call 22; refine (hC.out _).mono ?_; rw [hc]; rintro e w' ⟨rfl, rfl⟩)
        go_ret
        exact ⟨ret_bool hy.out.symm, rfl⟩
    · obtain rfl : k = s.size := by omega
      have ht : Hid (plainL s.data.toList = true) := Lib.hid (by have := hp.out; rwa [List.take_of_length_le (by simp)] at this)
      go_wp2_with fail
      go_ret
      exact ⟨ret_bool ht.out.symm, rfl⟩
end Go.Proofs.YtoaohohnaifjdaaDoor
