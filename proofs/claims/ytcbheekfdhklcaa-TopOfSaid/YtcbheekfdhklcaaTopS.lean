/- Of; two tops at once. -/
import Derived.Test.YtcbheekfdhklcaaTopR
import Derived.Test.YtcbheekfdhklcaaTopTp
import Derived.Deep.Onto
namespace Go.Proofs.Ytcbheekfdhklcaa
open Go.RowKit
set_option linter.unusedVariables false
set_option linter.unusedSimpArgs false

set_option maxRecDepth 100000 in
set_option maxHeartbeats 1000000 in
theorem of_yes (base b0 room seen : Nat) (A : Option Addr) (n c : Nat) (l : List It) (w : World) (hb : base ≤ w.heap.size) (hrm : 1 ≤ room ∧ room ≤ 16) (I : Its w b0 A n c l) (hR : RightP room seen l) :
    Calls Try.prog 20 #[.int .i64 room, .int .u64 seen, .slice A n c] w fun e w' => (∃ A' c', e = .returned (.tuple #[.pointer (some ⟨w.heap.size, 0, none⟩), .int .i64 0]) ∧ Tp w' base w.heap.size room seen A' n c' l ∧ (∀ q, Value.ownBlock (.slice A' n c') = some q → w.heap.size ≤ q)) ∧ Below w.heap.size w w' := by
  have hln := I.len
  have hlr := hR.len
  have hn16 : n ≤ 16 := by omega
  have hsn := hR.sn
  have hnc : n ≤ c := by
    rcases Nat.eq_zero_or_pos n with h | h
    · omega
    · obtain ⟨_, _, _, _, h4, _⟩ := I.row h; exact h4
  have hmany : ∀ x ∈ l, x.many ≤ 4611686018427387904 ∧ x.over ≤ 4611686018427387904 ∧ x.name.size ≤ 140737488355328 := fun x hx => by
    have h1 := mem_le_sum hx
    rw [hR.sum] at h1
    obtain ⟨i, hi, rfl⟩ := List.mem_iff_getElem.1 hx
    have h2 := hR.ok i hi
    have h3 := h2.ov
    have h4 := h2.nm
    rw [it_get l i hi] at h3 h4
    exact ⟨by omega, by omega, by omega⟩
  have hN := new_yes room hrm.1 hrm.2 base w hb
  have hRC := fun W (R : ItRow W A n l) => right_call room seen A n c l W R hnc (by omega) hrm.2 (by omega) (fun x hx => by have := hmany x hx; omega)
  have HM := Lib.hid hmany
  have HR := Lib.hid hR
  have HRC := Lib.hid hRC
  clear hmany hR hRC
  go_enter Try.func20, Try.ntmps20
  go_wp2_with (first
    | (go_at_call 10
       refine hN.mono ?_
       rintro e w1 ⟨rfl, T1, b1, l1⟩
       have I1 := I.step b1)
    | (go_at_call 36
       refine (HRC.out w1 I1.itRow).mono ?_
       rintro e w2 ⟨h, b2⟩
       have h' : e = .returned (.bool true) := (by rcases h with ⟨_, h⟩ | ⟨h, _⟩; exact h; exact absurd HR.out h)
       subst h'
       have I2 := I1.step b2
       have T2 := T1.step b2)
    | (go_at_call 28
       refine (clone_call b0 A n c l w2 I2 hn16).mono ?_
       rintro e w3 ⟨A', c', rfl, I3, b3⟩
       have T3 := T2.step b3
       have c0 : w3.cell? ⟨w.heap.size, 0, none⟩ = some (.slice none 0 0) := T3.blk.cellAt 0 rfl
       have c2 : w3.cell? ⟨w.heap.size, 2, none⟩ = some (.int .u64 0) := T3.blk.cellAt 2 rfl
       have f0 := T3.blk.frozen 0
       have f2 := (T3.blk.put 0 (.slice A' n c')).frozen 2
       have hfar := I3.far T3.blk (by decide)
       have hlt3 := T3.blk.lt
       have BB : Blk ((w3.setCell ⟨w.heap.size, 0, none⟩ (.slice A' n c')).setCell ⟨w.heap.size, 2, none⟩ (.int .u64 seen)) w.heap.size 63 #[.slice A' n c', .int .i64 room, .int .u64 seen] := (T3.blk.put 0 (.slice A' n c')).put 2 (.int .u64 seen)
       have hG : w3.grownBy ((w3.setCell ⟨w.heap.size, 0, none⟩ (.slice A' n c')).setCell ⟨w.heap.size, 2, none⟩ (.int .u64 seen)) (some w.heap.size) := only_setCell (p := ⟨w.heap.size, 2, none⟩) (only_setCell (p := ⟨w.heap.size, 0, none⟩) (only_refl _ _) (.inl rfl) _) (.inl rfl) _
       have b123 : Below w.heap.size w w3 := bstep b3 (bstep b2 b1)))
  go_ret2
  have hbb : w.heap.size ≤ w2.heap.size := (bstep b2 b1).size
  refine ⟨⟨A', c', rfl, ⟨BB, ⟨(I3.own.kept hG (.inr (fun e => hfar e.symm))).mono (by omega)⟩, hb, hrm, by omega, by omega, fun x hx => ⟨(HM.out x hx).1, (HM.out x hx).2.1⟩⟩, fun q hq => ?_⟩, bonly b123 hG (Nat.le_refl _)⟩
  have := (I3.own.lt q hq).1
  omega

/-- Two tops at once. -/
def TT (W : World) (base g1 g2 room s1 s2 : Nat) (L1 L2 : List It) (w : World) : Prop := ∃ A1 n1 c1 A2 n2 c2, Tp w base g1 room s1 A1 n1 c1 L1 ∧ Tp w base g2 room s2 A2 n2 c2 L2 ∧ g1 ≠ g2 ∧
  (∀ q, Value.ownBlock (.slice A1 n1 c1) = some q → Value.ownBlock (.slice A2 n2 c2) ≠ some q) ∧ Inv room s1 L1 ∧ Inv room s2 L2 ∧ Below base W w ∧ base ≤ W.heap.size
section
variable {W w w' : World} {base g1 g2 room s1 s2 : Nat} {L1 L2 : List It}
theorem TT.symm (h : TT W base g1 g2 room s1 s2 L1 L2 w) : TT W base g2 g1 room s2 s1 L2 L1 w := by
  obtain ⟨A1, n1, c1, A2, n2, c2, T1, T2, hg, hr, I1, I2, hB, hb⟩ := h
  exact ⟨A2, n2, c2, A1, n1, c1, T2, T1, fun e => hg e.symm, fun q h1 h2 => hr q h2 h1, I2, I1, hB, hb⟩
theorem TT.tm1 (h : TT W base g1 g2 room s1 s2 L1 L2 w) : TM W base g1 room s1 L1 w := by
  obtain ⟨A1, n1, c1, A2, n2, c2, T1, T2, hg, hr, I1, I2, hB, hb⟩ := h
  exact ⟨A1, n1, c1, T1, I1, hB, hb⟩
theorem TT.tm2 (h : TT W base g1 g2 room s1 s2 L1 L2 w) : TM W base g2 room s2 L2 w := h.symm.tm1
theorem TT.step (h : TT W base g1 g2 room s1 s2 L1 L2 w) (hb : Below w.heap.size w w') : TT W base g1 g2 room s1 s2 L1 L2 w' := by
  have hbs := h.tm1.bs
  obtain ⟨A1, n1, c1, A2, n2, c2, T1, T2, hg, hr, I1, I2, hB, hW⟩ := h
  exact ⟨A1, n1, c1, A2, n2, c2, T1.step hb, T2.step hb, hg, hr, I1, I2, hB.trans (hb.mono hbs), hW⟩
theorem TT.drew (h : TT W base g1 g2 room s1 s2 L1 L2 w) : TT W base g1 g2 room s1 s2 L1 L2 w.drew := h.step (bdrew (Below.refl _ _))
theorem TT.alloc (h : TT W base g1 g2 room s1 s2 L1 L2 w) (o : Obj) : TT W base g1 g2 room s1 s2 L1 L2 (w.alloc o) := h.step (balloc (Below.refl _ _) _)
theorem tt_add1 (nm : ByteArray) (by_ : Nat) (hby : by_ < 18446744073709551616) (hnm : nm.size ≤ 140737488355328) (h : TT W base g1 g2 room s1 s2 L1 L2 w) :
    Calls Try.prog 11 #[.pointer (some ⟨g1, 0, none⟩), .string nm, .int .u64 by_] w fun e w' => e = .returned (.int .i64 (addE s1 nm by_)) ∧ TT W base g1 g2 room (stepS s1 nm by_) s2 (stepT room s1 L1 nm by_) L2 w' := by
  have hbs := h.tm1.bs
  obtain ⟨A1, n1, c1, A2, n2, c2, T1, T2, hg, hr, I1, I2, B, hW⟩ := h
  refine (add_call base g1 room s1 A1 n1 c1 L1 nm by_ hby hnm w T1 I1).mono ?_
  rintro e w1 ⟨rfl, A', n', c', T', hO, hN⟩
  have hfar1 := T2.its.far T1.blk (by decide)
  have hfar2 := T1.its.far T2.blk (by decide)
  have hrow2 : ∀ q, Value.ownBlock (.slice A2 n2 c2) = some q → ¬ mine g1 (.slice A1 n1 c1) q := by
    rintro q hq (h1 | h1)
    · subst h1; exact hfar1 hq.symm
    · exact hr q h1.symm hq
  have T2' : Tp w1 base g2 room s2 A2 n2 c2 L2 := by
    refine ⟨hO.blk T2.blk ?_, ?_, T2.g0, T2.rm, T2.ln, T2.sn, T2.bd⟩
    · rintro (h1 | h1)
      · exact hg h1.symm
      · exact hfar2 h1
    · refine ⟨⟨T2.its.own.1, ?_⟩⟩
      rcases T2.its.own.2 with h0 | ⟨q, cap, cur, hv, hq0, hq, rest⟩
      · exact .inl h0
      · refine .inr ⟨q, cap, cur, hv, hq0, ?_, rest⟩
        rw [hO.block q (by rcases Nat.lt_or_ge q w.heap.size with h3 | h3; exact h3; rw [Array.getElem?_eq_none h3] at hq; cases hq) (hrow2 q (by rw [hv]; rfl))]
        exact hq
  refine ⟨rfl, A', n', c', A2, n2, c2, T', T2', hg, ?_, I1.step T1.rm.1 nm by_, I2, hO.below B hbs ?_, hW⟩
  · intro q h1 h2
    rcases hN with h | ⟨q2, h, hq2⟩
    · rw [h] at h1; exact hr q h1 h2
    · rw [h] at h1
      injection h1 with h1
      have := (T2.its.own.lt q h2).2
      omega
  · rintro i hi (rfl | h2)
    · have := T1.g0; omega
    · have := (T1.its.own.lt i h2.symm).1; omega
theorem tt_least1 (h : TT W base g1 g2 room s1 s2 L1 L2 w) : Calls Try.prog 14 #[.pointer (some ⟨g1, 0, none⟩)] w fun e w' => e = .returned (.int .u64 (leastT room L1)) ∧ TT W base g1 g2 room s1 s2 L1 L2 w' := by
  refine (tm_least h.tm1).mono ?_
  rintro e w1 ⟨rfl, _, hb⟩
  exact ⟨rfl, h.step hb⟩
theorem tt_add2 (nm : ByteArray) (by_ : Nat) (hby : by_ < 18446744073709551616) (hnm : nm.size ≤ 140737488355328) (h : TT W base g1 g2 room s1 s2 L1 L2 w) :
    Calls Try.prog 11 #[.pointer (some ⟨g2, 0, none⟩), .string nm, .int .u64 by_] w fun e w' => e = .returned (.int .i64 (addE s2 nm by_)) ∧ TT W base g1 g2 room s1 (stepS s2 nm by_) L1 (stepT room s2 L2 nm by_) w' := by
  refine (tt_add1 nm by_ hby hnm h.symm).mono ?_
  rintro e w1 ⟨rfl, h1⟩
  exact ⟨rfl, h1.symm⟩
theorem tt_least2 (h : TT W base g1 g2 room s1 s2 L1 L2 w) : Calls Try.prog 14 #[.pointer (some ⟨g2, 0, none⟩)] w fun e w' => e = .returned (.int .u64 (leastT room L2)) ∧ TT W base g1 g2 room s1 s2 L1 L2 w' := by
  refine (tt_least1 h.symm).mono ?_
  rintro e w1 ⟨rfl, h1⟩
  exact ⟨rfl, h1.symm⟩
/-- Of what a top told there is another top beside it. -/
theorem tt_of {b0 : Nat} {A : Option Addr} {n c : Nat} {s : List It} (h : TM W base g1 room s1 L1 w) (I : Its w b0 A n c s) (hT : Told L1 s) (hR : RightP room s1 s) :
    Calls Try.prog 20 #[.int .i64 room, .int .u64 s1, .slice A n c] w fun e w' => e = .returned (.tuple #[.pointer (some ⟨w.heap.size, 0, none⟩), .int .i64 0]) ∧ TT W base g1 w.heap.size room s1 s1 L1 s w' ∧ Below w.heap.size w w' := by
  have hbs := h.bs
  have hlt := h.lt
  obtain ⟨A1, n1, c1, T1, I1, B, hW⟩ := h
  refine (of_yes base b0 room s1 A n c s w hbs T1.rm I hR).mono ?_
  rintro e w1 ⟨⟨A', c', rfl, T2, hq⟩, hb⟩
  refine ⟨rfl, ⟨A1, n1, c1, A', n, c', T1.step hb, T2, by omega, ?_, I1, ⟨hR.sum, hT.nodup I1.nd, hR.len, hR.sn⟩, B.trans (hb.mono hbs), hW⟩, hb⟩
  intro q h1 h2
  have := hq q h2
  have := (T1.its.own.lt q h1).2
  omega
end
end Go.Proofs.Ytcbheekfdhklcaa
