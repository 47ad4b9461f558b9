/- Both quotas beside each other. -/
import Derived.Test.YtapiehddcdnadaaGreatDoorQuZp
import Derived.Test.YtapiehddcdnadaaGreatDoorQuZm
import Derived.Test.YtapiehddcdnadaaGreatDoorQuZl
import Derived.Test.YtapiehddcdnadaaGreatDoorQuZy
namespace Go.Proofs.YtapiehddcdnadaaGreatDoor
open Go.RowKit
set_option linter.unusedVariables false
set_option linter.unusedSimpArgs false

theorem seeQ_b (q : QS) : (seeQ q).b = q.b := rfl
theorem admitQ_b (q : QS) (key metric : ByteArray) (known full : Bool) : (admitQ q key metric known full).b = q.b := by
  unfold admitQ
  split <;> rfl
/-- The document's quota q at g. -/
def RX (W : World) (g : Nat) (q : QS) (w : World) : Prop := RZ W w g q w
section
variable {W w w' : World} {g : Nat} {q : QS}
theorem RX.step (h : RX W g q w) (hb : Below w.heap.size w w') : RX W g q w' := (RZ.step h hb).at0
theorem RX.farQ (h : RX W g q w) (hF : FarQ w w') (hB : Below W.heap.size W w') : RX W g q w' := RZ.farQ h hF hB
theorem RX.below (h : RX W g q w) : Below W.heap.size W w := RZ.below h
theorem RZ.rx {w0 : World} (h : RZ W w0 g q w) : RX W g q w := h.at0
theorem rx_new (p : PolN) (a : Option Addr) (n c : Nat) (xs : List Int) (window : Int) (hW : Below W.heap.size W w) (hx : Ints .i64 w a n xs) (hn : n ≤ 9223372036854775807) (hr : rightP p xs = true) (h0 : 0 ≤ window) (h1 : window ≤ 9223372036854775807) :
    Calls Tryz.prog 8 #[polV p a n c, .int .i64 window] w fun e w' => ∃ g, e = .returned (.pointer (some ⟨g, 0, none⟩)) ∧ RX W g (newQ p window) w' ∧ Below w.heap.size w w' := by
  refine (rqnew_yes W p a n c xs window w hW hx hn hr h0 h1).mono ?_
  rintro e w' ⟨g, rfl, h, hb, _⟩
  exact ⟨g, rfl, h, hb⟩
theorem rx_many (h : RX W g q w) : Calls Tryz.prog 21 #[.pointer (some ⟨g, 0, none⟩)] w fun e w' => e = .returned (.int .u64 (manyQ q)) ∧ Below w.heap.size w w' := by
  obtain ⟨_, _, _, _, _, h, _⟩ := h
  exact rqmany h
theorem rx_admit (key metric : ByteArray) (known full : Bool) (hk : key.size ≤ 7) (hm : metric.size ≤ 64) (h : RX W g q w) :
    Calls Tryz.prog 23 #[.pointer (some ⟨g, 0, none⟩), .string key, .string metric, .bool known, .bool full] w fun e w' => e = .returned (.int .i64 (admitE q key known full)) ∧ RX W g (admitQ q key metric known full) w' ∧ FarR w w' := by
  obtain ⟨a, b, c, d, e, h, hne⟩ := h
  refine (rqadmit key metric known full hk hm h hne).mono ?_
  rintro _ w' ⟨rfl, h'⟩
  have hf := h'.far
  exact ⟨rfl, ⟨a, b, c, d, e, by rw [admitQ_b]; exact h'.at0, hne⟩, hf⟩
theorem rx_state (h : RX W g q w) : Calls Tryz.prog 18 #[.pointer (some ⟨g, 0, none⟩)] w (RStatePost w q) := by
  obtain ⟨_, _, _, _, _, h, _⟩ := h
  exact rqstate h
theorem rx_roll_no (p : PolN) (a : Option Addr) (n c : Nat) (xs : List Int) (window : Int) (h : RX W g q w) (hx : Ints .i64 w a n xs) (hn : n ≤ 9223372036854775807) (hr : rightP p xs = false ∨ window ≤ q.win) :
    Calls Tryz.prog 12 #[.pointer (some ⟨g, 0, none⟩), .int .i64 window, polV p a n c] w fun e w' => e = .returned (.int .i64 0) ∧ Below w.heap.size w w' := by
  obtain ⟨_, _, _, _, _, h, _⟩ := h
  exact rroll_no p a n c xs window h hx hn hr
theorem rx_roll_next (p : PolN) (a : Option Addr) (n c : Nat) (xs : List Int) (window : Int) (h : RX W g q w) (hx : Ints .i64 w a n xs) (hn : n ≤ 9223372036854775807) (hr : rightP p xs = true) (hw : window = q.win + 1) (hw2 : window ≤ 9223372036854775807) :
    Calls Tryz.prog 12 #[.pointer (some ⟨g, 0, none⟩), .int .i64 window, polV p a n c] w fun e w' => e = .returned (.int .i64 1) ∧ RX W g (endQ (nextQ q window) p) w' ∧ FarR w w' := by
  obtain ⟨_, _, _, _, _, h, _⟩ := h
  refine (rroll_next p a n c xs window h hx hn hr hw hw2).mono ?_
  rintro _ w' ⟨rfl, h'⟩
  exact ⟨rfl, h'.rx, h'.far⟩
theorem rx_roll_later (p : PolN) (a : Option Addr) (n c : Nat) (xs : List Int) (window : Int) (h : RX W g q w) (hx : Ints .i64 w a n xs) (hn : n ≤ 9223372036854775807) (hr : rightP p xs = true) (hw : q.win + 1 < window) (hw2 : window ≤ 9223372036854775807) :
    Calls Tryz.prog 12 #[.pointer (some ⟨g, 0, none⟩), .int .i64 window, polV p a n c] w fun e w' => e = .returned (.int .i64 2) ∧ RX W g (endQ (laterQ q window) p) w' ∧ FarR w w' := by
  obtain ⟨_, _, _, _, _, h, _⟩ := h
  refine (rroll_later p a n c xs window h hx hn hr hw hw2).mono ?_
  rintro _ w' ⟨rfl, h'⟩
  exact ⟨rfl, h'.rx, h'.far⟩
theorem qf_roll_next (p : PolN) (a : Option Addr) (n c : Nat) (xs : List Int) (window : Int) (h : QQ W g q w) (hx : Ints .i64 w a n xs) (hn : n ≤ 9223372036854775807) (hr : rightP p xs = true) (hw : window = q.win + 1) (hw2 : window ≤ 9223372036854775807) :
    Calls Tryz.prog 11 #[.pointer (some ⟨g, 0, none⟩), .int .i64 window, polV p a n c] w fun e w' => e = .returned (.int .i64 1) ∧ QQ W g (endQ (nextQ q window) p) w' ∧ FarQ w w' := by
  obtain ⟨_, _, _, h⟩ := h
  refine (roll_next_far p a n c xs window h.toF hx hn hr hw hw2).mono ?_
  rintro _ w' ⟨rfl, h'⟩
  exact ⟨rfl, h'.qq, h'.far⟩
theorem qf_roll_later (p : PolN) (a : Option Addr) (n c : Nat) (xs : List Int) (window : Int) (h : QQ W g q w) (hx : Ints .i64 w a n xs) (hn : n ≤ 9223372036854775807) (hr : rightP p xs = true) (hw : q.win + 1 < window) (hw2 : window ≤ 9223372036854775807) :
    Calls Tryz.prog 11 #[.pointer (some ⟨g, 0, none⟩), .int .i64 window, polV p a n c] w fun e w' => e = .returned (.int .i64 2) ∧ QQ W g (endQ (laterQ q window) p) w' ∧ FarQ w w' := by
  obtain ⟨_, _, _, h⟩ := h
  refine (roll_later_far p a n c xs window h.toF hx hn hr hw hw2).mono ?_
  rintro _ w' ⟨rfl, h'⟩
  exact ⟨rfl, h'.qq, h'.far⟩
theorem RX.cells (h : RX W g q w) : ∃ gn gt, w.cell? ⟨g, 0, none⟩ = some (.int .i64 q.win) ∧ w.cell? ⟨g, 1, none⟩ = some (.pointer (some ⟨gn, 0, none⟩)) ∧ w.cell? ⟨g, 3, none⟩ = some (.bool q.closed) ∧ w.cell? ⟨g, 6, none⟩ = some (.pointer (some ⟨gt, 0, none⟩)) ∧ g < w.heap.size ∧ (∃ yn, Rf w gn yn q.b q.rn) ∧ gt < w.heap.size ∧ w.cell? ⟨gt, 1, none⟩ = some (.int .i64 q.room) := by
  obtain ⟨gn, gb, gt, yn, yb, h, hne⟩ := h
  obtain ⟨A, n, c, R, _⟩ := h.tm
  exact ⟨gn, gt, h.c0, h.c1, h.c3, h.c6, h.blk.lt, ⟨yn, h.now⟩, R.blk.lt, R.blk.cellAt 1 rfl⟩
theorem QQ.tmr (h : QQ W g q w) : (nms q.l).Nodup ∧ q.l.length ≤ 16 := by
  obtain ⟨_, _, gt, h⟩ := h
  have I := h.tm.inv
  have := h.tm.rm
  have := I.len
  exact ⟨I.nd, by omega⟩
/-- What both tell of themselves is the same. -/
theorem same_both {V1 V2 V3 : World} {A1 A2 : Option Addr} {n1 c1 n2 c2 b1 b2 : Nat} {s1 s2 : List It} (hq : QQ W g q w) (T1 : Told q.l s1) (T2 : Told q.l s2) (I1 : Its V1 b1 A1 n1 c1 s1) (I2 : RIts V2 b2 A2 n2 c2 s2) (hb1 : Below V1.heap.size V1 V3) (hb2 : Below V2.heap.size V2 V3) :
    Calls Tryz.prog 19 #[stateV q A1 n1 c1, stateV q A2 n2 c2] V3 fun e w' => e = .returned (.bool true) ∧ Below V3.heap.size V3 w' := by
  obtain ⟨hnd, hl⟩ := hq.tmr
  obtain rfl : s2 = s1 := T2.unique T1 (List.Perm.refl _) hnd
  have h1 := I1.len
  have h2 := I2.len
  have h3 := T1.len
  obtain rfl : n1 = n2 := by omega
  rw [stateV_eq, stateV_eq]
  exact same_st _ _ _ _ _ _ _ _ _ _ _ V3 (I1.itRow.step hb1) (I2.itRow.step hb2) (by omega)
end
end Go.Proofs.YtapiehddcdnadaaGreatDoor
