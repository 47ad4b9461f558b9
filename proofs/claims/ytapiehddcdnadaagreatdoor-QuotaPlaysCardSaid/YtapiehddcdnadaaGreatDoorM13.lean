/- A deed's name. What the tops beside each other tell. -/
import Derived.Test.YtapiehddcdnadaaGreatDoorM11
import Derived.Test.YtapiehddcdnadaaGreatDoorM9
import Derived.Test.YtapiehddcdnadaaGreatDoorM12
import Derived.Test.YtapiehddcdnadaaGreatDoorM7
import Derived.Test.YtapiehddcdnadaaGreatDoorM10
namespace Go.Proofs.YtapiehddcdnadaaGreatDoor
open Go.RowKit
set_option linter.unusedVariables false
set_option linter.unusedSimpArgs false

def dname (k : Nat) (s : ByteArray) : ByteArray := if 240 < k then s else nmOf (k % 26)
theorem dname_size (k : Nat) (s : ByteArray) (h : s.size ≤ 140737488355328) : (dname k s).size ≤ 140737488355328 := by
  unfold dname
  split
  · exact h
  · rw [nmOf_size]; omega
end Go.Proofs.YtapiehddcdnadaaGreatDoor
namespace Go.Proofs.YtapiehddcdnadaaGreatDoor
open Go.RowKit
set_option linter.unusedVariables false
set_option linter.unusedSimpArgs false

section
variable {W w w' : World} {base g h room s1 s2 : Nat} {L1 L2 : List It}
theorem pr_new (h0 : 1 ≤ room) (h1 : room ≤ 16) (T : TM W base g room s1 L1 w) :
    Calls Tryz.prog 34 #[.int .i64 room] w fun e w' => e = .returned (.pointer (some ⟨w.heap.size, 0, none⟩)) ∧ PR W base g w.heap.size room s1 0 L1 [] w' ∧ Below w.heap.size w w' := by
  have hbs := T.bs
  obtain ⟨A, n, c, T1, I, B, hW⟩ := T
  refine (rnew_yes room h0 h1 base w hbs).mono ?_
  rintro e w1 ⟨rfl, R, hb⟩
  exact ⟨rfl, ⟨A, n, c, none, 0, 0, T1.step hb, R, I, ⟨rfl, List.nodup_nil, Nat.zero_le _, Nat.zero_le _⟩, B.trans (hb.mono hbs), hW⟩, hb⟩
theorem PR.inv2 (H : PR W base g h room s1 s2 L1 L2 w) : Inv room s2 L2 := by
  obtain ⟨A, n, c, A2, n2, c2, T, R, I1, I2, hB, hb⟩ := H
  exact I2
theorem its_bound {B : Nat} {A : Option Addr} {n c : Nat} {t : List It} (hT : Told L1 t) (hI : Its w B A n c t) (I : Inv room s1 L1) (hr : room ≤ 16) : n ≤ 16 ∧ n ≤ c := by
  have h1 := hT.len
  have h2 := hI.len
  have h3 := I.len
  refine ⟨by omega, ?_⟩
  rcases Nat.eq_zero_or_pos n with h | h
  · omega
  · obtain ⟨_, _, _, _, h4, _⟩ := hI.row h; exact h4
theorem rits_le {B : Nat} {A : Option Addr} {n c : Nat} {t : List It} (hI : RIts w B A n c t) : n ≤ c := by
  rcases Nat.eq_zero_or_pos n with h | h
  · omega
  · obtain ⟨_, _, _, _, h4, _⟩ := hI.row h; exact h4
theorem pr_items1 (H : PR W base g h room s1 s2 L1 L2 w) :
    Calls Tryz.prog 50 #[.pointer (some ⟨g, 0, none⟩)] w fun e w' => ∃ A n c t, e = .returned (.slice A n c) ∧ Told L1 t ∧ Its w' w.heap.size A n c t ∧ n ≤ 16 ∧ n ≤ c ∧ PR W base g h room s1 s2 L1 L2 w' := by
  have hi := H.tm.inv
  have hr := H.tm.rm
  refine (tm_items H.tm).mono ?_
  rintro e w1 ⟨A, n, c, t, rfl, hT, hI, _, hb⟩
  obtain ⟨h1, h2⟩ := its_bound hT hI hi hr.2
  exact ⟨A, n, c, t, rfl, hT, hI, h1, h2, H.step hb⟩
theorem pr_items2 {A : Option Addr} {n : Nat} {t : List It} (hR : ItRow w A n t) (hT : Told L2 t) (H : PR W base g h room s1 s2 L1 L2 w) :
    Calls Tryz.prog 54 #[.pointer (some ⟨h, 0, none⟩)] w fun e w' => ∃ A' c', e = .returned (.slice A' n c') ∧ n ≤ c' ∧ ItRow w' A' n t ∧ ItRow w' A n t ∧ PR W base g h room s1 s2 L1 L2 w' := by
  have H' := H
  obtain ⟨A0, n0, c0, A2, n2, c2, T, R, I1, I2, hB, hb⟩ := H
  refine (ritems_call R).mono ?_
  rintro e w1 ⟨A', c', t', rfl, hT', hI', hb'⟩
  obtain rfl : t' = t := hT'.unique hT (List.Perm.refl _) I2.nd
  have hn2 : n2 = n := by rw [← hR.len, ← hI'.len]
  subst hn2
  exact ⟨A', c', rfl, rits_le hI', hI'.itRow, hR.step hb', H'.step hb'⟩
/-- Of what is told there is another top, beside both. -/
theorem pr_of {B : Nat} {A : Option Addr} {n c : Nat} {t : List It} (hI : Its w B A n c t) (hT : Told L1 t) (hR : RightP room s1 t) (H : PR W base g h room s1 s2 L1 L2 w) :
    Calls Tryz.prog 47 #[.int .i64 room, .int .u64 s1, .slice A n c] w fun e w' => ∃ g2, e = .returned (.tuple #[.pointer (some ⟨g2, 0, none⟩), .int .i64 0]) ∧ TM W base g2 room s1 t w' ∧ PR W base g h room s1 s2 L1 L2 w' := by
  refine (tt_of H.tm hI hT hR).mono ?_
  rintro e w1 ⟨rfl, h1, hb⟩
  exact ⟨_, rfl, h1.tm2, H.step hb⟩
theorem pr_again {g2 : Nat} {t : List It} (hT : Told L1 t) (hnd : (nms L1).Nodup) (T : TM W base g2 room s1 t w) (H : PR W base g h room s1 s2 L1 L2 w) :
    Calls Tryz.prog 50 #[.pointer (some ⟨g2, 0, none⟩)] w fun e w' => ∃ A n c, e = .returned (.slice A n c) ∧ Its w' w.heap.size A n c t ∧ n ≤ 16 ∧ n ≤ c ∧ PR W base g h room s1 s2 L1 L2 w' := by
  have hi := T.inv
  have hr := T.rm
  refine (tm_items T).mono ?_
  rintro e w1 ⟨A, n, c, t', rfl, hT', hI, _, hb⟩
  obtain ⟨h1, h2⟩ := its_bound hT' hI hi hr.2
  have hp : t' = t := by
    have h3 : Told L1 t' := ⟨hT'.perm.trans hT.perm, hT'.sort⟩
    exact h3.unique hT (List.Perm.refl _) hnd
  subst hp
  exact ⟨A, n, c, rfl, hI, h1, h2, H.step hb⟩
end
end Go.Proofs.YtapiehddcdnadaaGreatDoor
