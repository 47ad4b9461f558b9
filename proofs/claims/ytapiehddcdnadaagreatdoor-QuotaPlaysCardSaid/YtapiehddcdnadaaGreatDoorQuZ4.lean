/- Both quotas, deed by deed: contracts that hold whatever comes. -/
import Derived.Test.YtapiehddcdnadaaGreatDoorQuZ1
import Derived.Test.YtapiehddcdnadaaGreatDoorQuZw
import Derived.Test.YtapiehddcdnadaaGreatDoorM12
namespace Go.Proofs.YtapiehddcdnadaaGreatDoor
open Go.RowKit
set_option linter.unusedVariables false
set_option linter.unusedSimpArgs false

/-- A policy's tiers: the argument's, or a row of their own. -/
structure TierQ (w0 w : World) (A : Option Addr) (n : Nat) (ts : List Int) : Prop where
  ints : Ints .i64 w A n ts
  le : n ≤ 9223372036854775807
  src : Ints .i64 w0 A n ts ∨ (∃ b off cs, A = some ⟨b, off, none⟩ ∧ Blk w b 2 cs) ∨ n = 0
section
variable {w0 w w' : World} {A : Option Addr} {n : Nat} {ts : List Int}
theorem TierQ.keep (h : TierQ w0 w A n ts) (hb : Below w0.heap.size w0 w') (hk : ∀ b cs, Blk w b 2 cs → Blk w' b 2 cs) : TierQ w0 w' A n ts := by
  rcases h.src with h0 | ⟨b, off, cs, rfl, B⟩ | h0
  · exact ⟨h0.step hb, h.le, .inl h0⟩
  · have B' := hk b cs B
    refine ⟨⟨h.ints.len, h.ints.wf, fun hn => ?_⟩, h.le, .inr (.inl ⟨b, off, cs, rfl, B'⟩)⟩
    obtain ⟨b2, off2, e, hl, hc⟩ := h.ints.at_ hn
    injection e with e
    injection e with e1 e2
    subst e1
    subst e2
    exact ⟨b, off, rfl, B'.lt, fun i hi => ((B'.cell _).trans (B.cell _).symm).trans (hc i hi)⟩
  · exact ⟨⟨h.ints.len, h.ints.wf, fun hn => by omega⟩, h.le, .inr (.inr h0)⟩
theorem TierQ.step (h : TierQ w0 w A n ts) (hb : Below w.heap.size w w') : TierQ w0 w' A n ts := by
  refine ⟨h.ints.step hb, h.le, ?_⟩
  rcases h.src with h0 | ⟨b, off, cs, e, B⟩ | h0
  · exact .inl h0
  · exact .inr (.inl ⟨b, off, cs, e, Blk.step hb B⟩)
  · exact .inr (.inr h0)
theorem TierQ.farQ (h : TierQ w0 w A n ts) (hb : Below w0.heap.size w0 w') (hF : FarQ w w') : TierQ w0 w' A n ts := h.keep hb (fun b cs B => hF.2 _ _ _ B (by decide) (by decide) (by decide) (by decide))
theorem TierQ.farR (h : TierQ w0 w A n ts) (hb : Below w0.heap.size w0 w') (hF : FarR w w') : TierQ w0 w' A n ts := h.keep hb (fun b cs B => hF.2 _ _ _ B (by decide) (by decide) (by decide) (by decide))
theorem TierQ.grown (h : TierQ w0 w A n ts) (hb : Below w0.heap.size w0 w') {g : Nat} {t : TypeId} {cs : Array Value} (B : Blk w g t cs) (ht : t ≠ 2) (hG : w.grownBy w' (some g)) : TierQ w0 w' A n ts := h.keep hb (fun b cs B2 => Blk.grown hG B2 (by intro e; injection e with e; exact B.ne_ B2 ht e.symm))
end
theorem wish_tq (w0 : World) (p : PolN) (ta : Option Addr) (tn tc : Nat) (ts : List Int) (own : Bool) (a : Option Addr) (n c : Nat) (xs : List Int) (w : World) (hb0 : Below w0.heap.size w0 w) (ht : Ints .i64 w0 ta tn ts) (htn : tn ≤ 9223372036854775807) (hx : Ints .u16 w0 a n xs) (hn : n ≤ 9223372036854775807) :
    Calls Tryz.prog 6 #[wishV p ta tn tc own a n c] w fun e w' => ∃ P A nP cP ts', e = .returned (polV P A nP cP) ∧ TierQ w0 w' A nP ts' ∧ Below w.heap.size w w' := by
  cases own
  · refine (wish_raw p ta tn tc a n c w).mono ?_
    rintro e w' ⟨rfl, hb⟩
    exact ⟨p, ta, tn, tc, ts, rfl, ⟨(ht.step hb0).step hb, htn, .inl ht⟩, hb⟩
  · refine (wish_new p ta tn tc a n c xs w (hx.step hb0) hn).mono ?_
    rintro e w' ⟨A, c', rfl, ⟨B, hB, hO⟩, hb⟩
    have hr := wish_right xs (nI_bd hx)
    unfold rightP at hr
    simp only [Bool.and_eq_true, decide_eq_true_eq] at hr
    refine ⟨_, A, _, c', _, rfl, ⟨hO.ints, by omega, ?_⟩, hb⟩
    rcases hO.own.2 with ⟨_, e2⟩ | ⟨q, cap, cur, e1, _, hg, _⟩
    · exact .inr (.inr e2)
    · injection e1 with e1 _ _
      exact .inr (.inl ⟨q, 0, cur, e1, hg⟩)
/-- The program's quota q1 at g, the document's q2 at x. -/
def PX (W : World) (g x : Nat) (q1 q2 : QS) (w : World) : Prop := QQ W g q1 w ∧ RX W x q2 w
def rollE (q : QS) (R : Bool) (window : Int) : Int := if R = false ∨ window ≤ q.win then 0 else if window = q.win + 1 then 1 else 2
def rollQ (q : QS) (p : PolN) (R : Bool) (window : Int) : QS := if R = false ∨ window ≤ q.win then q else if window = q.win + 1 then endQ (nextQ q window) p else endQ (laterQ q window) p
def admE (q : QS) (key metric : ByteArray) (known full : Bool) : Int := if 64 < metric.size then 1 else admitE q key known full
def admQ (q : QS) (key metric : ByteArray) (known full : Bool) : QS := if 64 < metric.size then q else admitQ q key metric known full
def BackQQ (q : QS) : Prop := BackInv q.room q.seen q.l ∧ 1 ≤ q.room
section
variable {W w w' : World} {g x : Nat} {q q1 q2 : QS}
theorem PX.below (h : PX W g x q1 q2 w) : Below W.heap.size W w := h.1.below
theorem PX.step (h : PX W g x q1 q2 w) (hb : Below w.heap.size w w') : PX W g x q1 q2 w' := ⟨h.1.step hb, h.2.step hb⟩
theorem px_adm1 (hT : Tab W) (key metric : ByteArray) (known full : Bool) (hk : key.size ≤ 7) (h : PX W g x q1 q2 w) :
    Calls Tryz.prog 22 #[.pointer (some ⟨g, 0, none⟩), .string key, .string metric, .bool known, .bool full] w fun e w' => e = .returned (.int .i64 (admE q1 key metric known full)) ∧ PX W g x (admQ q1 key metric known full) q2 w' ∧ FarQ w w' := by
  unfold admE admQ
  split
  · next hm =>
    obtain ⟨⟨_, _, _, h1⟩, h2⟩ := h
    refine (admit_long key metric known full hm h1).mono ?_
    rintro e w' ⟨rfl, rfl⟩
    exact ⟨rfl, ⟨⟨_, _, _, h1⟩, h2⟩, FarQ.refl _⟩
  · next hm =>
    refine (q_admit_far hT key metric known full (by omega) (by omega) h.1).mono ?_
    rintro e w' ⟨rfl, h1, hF⟩
    exact ⟨rfl, ⟨h1, h.2.farQ hF h1.below⟩, hF⟩
theorem px_adm2 (key metric : ByteArray) (known full : Bool) (hk : key.size ≤ 7) (h : PX W g x q1 q2 w) :
    Calls Tryz.prog 23 #[.pointer (some ⟨x, 0, none⟩), .string key, .string metric, .bool known, .bool full] w fun e w' => e = .returned (.int .i64 (admE q2 key metric known full)) ∧ PX W g x q1 (admQ q2 key metric known full) w' ∧ FarR w w' := by
  unfold admE admQ
  split
  · next hm =>
    refine (rqadmit_long key metric known full hm).mono ?_
    rintro e w' ⟨rfl, rfl⟩
    exact ⟨rfl, h, FarR.refl _⟩
  · next hm =>
    refine (rx_admit key metric known full hk (by omega) h.2).mono ?_
    rintro e w' ⟨rfl, h2, hF⟩
    exact ⟨rfl, ⟨h.1.farR hF h2.below, h2⟩, hF⟩
theorem px_roll1 (p : PolN) (a : Option Addr) (n c : Nat) (xs : List Int) (window : Int) (h : PX W g x q1 q2 w) (hx : Ints .i64 w a n xs) (hn : n ≤ 9223372036854775807) (hw2 : window ≤ 9223372036854775807) :
    Calls Tryz.prog 11 #[.pointer (some ⟨g, 0, none⟩), .int .i64 window, polV p a n c] w fun e w' => e = .returned (.int .i64 (rollE q1 (rightP p xs) window)) ∧ PX W g x (rollQ q1 p (rightP p xs) window) q2 w' ∧ FarQ w w' := by
  unfold rollE rollQ
  by_cases h0 : rightP p xs = false ∨ window ≤ q1.win
  · rw [if_pos h0, if_pos h0]
    refine (q_roll_no p a n c xs window h.1 hx hn h0).mono ?_
    rintro e w' ⟨rfl, hb⟩
    exact ⟨rfl, h.step hb, FarQ.of_below hb⟩
  · rw [if_neg h0, if_neg h0]
    rw [not_or] at h0
    have hr : rightP p xs = true := by simpa using h0.1
    by_cases h1 : window = q1.win + 1
    · rw [if_pos h1, if_pos h1]
      refine (qf_roll_next p a n c xs window h.1 hx hn hr h1 hw2).mono ?_
      rintro e w' ⟨rfl, h', hF⟩
      exact ⟨rfl, ⟨h', h.2.farQ hF h'.below⟩, hF⟩
    · rw [if_neg h1, if_neg h1]
      refine (qf_roll_later p a n c xs window h.1 hx hn hr (by omega) hw2).mono ?_
      rintro e w' ⟨rfl, h', hF⟩
      exact ⟨rfl, ⟨h', h.2.farQ hF h'.below⟩, hF⟩
theorem px_roll2 (p : PolN) (a : Option Addr) (n c : Nat) (xs : List Int) (window : Int) (h : PX W g x q1 q2 w) (hx : Ints .i64 w a n xs) (hn : n ≤ 9223372036854775807) (hw2 : window ≤ 9223372036854775807) :
    Calls Tryz.prog 12 #[.pointer (some ⟨x, 0, none⟩), .int .i64 window, polV p a n c] w fun e w' => e = .returned (.int .i64 (rollE q2 (rightP p xs) window)) ∧ PX W g x q1 (rollQ q2 p (rightP p xs) window) w' ∧ FarR w w' := by
  unfold rollE rollQ
  by_cases h0 : rightP p xs = false ∨ window ≤ q2.win
  · rw [if_pos h0, if_pos h0]
    refine (rx_roll_no p a n c xs window h.2 hx hn h0).mono ?_
    rintro e w' ⟨rfl, hb⟩
    exact ⟨rfl, h.step hb, (FarR.refl _).below hb⟩
  · rw [if_neg h0, if_neg h0]
    rw [not_or] at h0
    have hr : rightP p xs = true := by simpa using h0.1
    by_cases h1 : window = q2.win + 1
    · rw [if_pos h1, if_pos h1]
      refine (rx_roll_next p a n c xs window h.2 hx hn hr h1 hw2).mono ?_
      rintro e w' ⟨rfl, h', hF⟩
      exact ⟨rfl, ⟨h.1.farR hF h'.below, h'⟩, hF⟩
    · rw [if_neg h1, if_neg h1]
      refine (rx_roll_later p a n c xs window h.2 hx hn hr (by omega) hw2).mono ?_
      rintro e w' ⟨rfl, h', hF⟩
      exact ⟨rfl, ⟨h.1.farR hF h'.below, h'⟩, hF⟩
/-- A cell of a policy's block is set. -/
theorem PX.other (h : PX W g x q1 q2 w) {b : Nat} {cs : Array Value} (hB : Blk w b 24 cs) (hb : W.heap.size ≤ b) (hG : w.grownBy w' (some b)) : PX W g x q1 q2 w' := by
  obtain ⟨⟨a1, a2, a3, h1⟩, ⟨b1, b2, b3, b4, b5, h2, hne⟩⟩ := h
  exact ⟨⟨a1, a2, a3, h1.other hB (by decide) (by decide) (by decide) (by decide) hb hG⟩, ⟨b1, b2, b3, b4, b5, h2.other hB (by decide) (by decide) (by decide) (by decide) (by decide) hb hG, hne⟩⟩
theorem room_adm (key metric : ByteArray) (known full : Bool) : (admQ q key metric known full).room = q.room := by
  unfold admQ admitQ
  split
  · rfl
  · split <;> rfl
theorem back_adm (h : BackQQ q) (key metric : ByteArray) (known full : Bool) : BackQQ (admQ q key metric known full) := by
  refine ⟨?_, by rw [room_adm]; exact h.2⟩
  unfold admQ admitQ
  split
  · exact h.1
  · split
    · exact h.1
    · exact BackInv.step h.1 h.2 metric 1
theorem back_roll (h : BackQQ q) (p : PolN) (ts : List Int) (window : Int) : BackQQ (rollQ q p (rightP p ts) window) := by
  unfold rollQ
  split
  · exact h
  · next h0 =>
    rw [not_or] at h0
    have ok := right_ok (p := p) (xs := ts) (by simpa using h0.1)
    have h1 : 1 ≤ p.top.toNat := by have := ok.tp; omega
    split
    · exact ⟨BackInv.nil _, h1⟩
    · exact ⟨BackInv.nil _, h1⟩
end
end Go.Proofs.YtapiehddcdnadaaGreatDoor
