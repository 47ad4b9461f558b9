/- May items be told? What is asked; ContainsFunc with the closure. -/
import Derived.Test.YtcbheekfdhklcaaTopMa
namespace Go.Proofs.Ytcbheekfdhklcaa
open Go.RowKit
set_option linter.unusedVariables false
set_option linter.unusedSimpArgs false

/-- A slice of items, whoever's it is. -/
structure ItRow (w : World) (A : Option Addr) (n : Nat) (l : List It) : Prop where
  len : l.length = n
  at_ : 0 < n → ∃ b off, A = some ⟨b, off, none⟩ ∧ b < w.heap.size ∧ ∀ i, i < n → w.cell? ⟨b, off + i * 3, none⟩ = some (.string (l.getD i default).name) ∧ w.cell? ⟨b, off + i * 3 + 1, none⟩ = some (.int .u64 (l.getD i default).many) ∧ w.cell? ⟨b, off + i * 3 + 2, none⟩ = some (.int .u64 (l.getD i default).over)
theorem Its.itRow {w : World} {base : Nat} {A : Option Addr} {n c : Nat} {l : List It} (h : Its w base A n c l) : ItRow w A n l := ⟨h.len, fun hn => by
  obtain ⟨r, rfl, _, hr, _, hc⟩ := h.row hn
  exact ⟨r, 0, rfl, hr, fun i hi => by rw [Nat.zero_add]; exact hc i hi⟩⟩
theorem ItRow.step {w w' : World} {A : Option Addr} {n : Nat} {l : List It} (h : ItRow w A n l) (hb : Below w.heap.size w w') : ItRow w' A n l := ⟨h.len, fun hn => by
  obtain ⟨b, off, rfl, hr, hc⟩ := h.at_ hn
  refine ⟨b, off, rfl, Nat.lt_of_lt_of_le hr hb.size, fun i hi => ?_⟩
  obtain ⟨x, y, z⟩ := hc i hi
  exact ⟨(hb.cell (p := ⟨b, off + i * 3, none⟩) hr).trans x, (hb.cell (p := ⟨b, off + i * 3 + 1, none⟩) hr).trans y, (hb.cell (p := ⟨b, off + i * 3 + 2, none⟩) hr).trans z⟩⟩

def twice (l : List It) (k : Nat) : Bool := (l.take k).any fun o => o.name.toList == (l.getD k default).name.toList
/-- The item at k may be told, left left. -/
structure OkAt (room : Nat) (l : List It) (left k : Nat) : Prop where
  one : twice l k = false
  nm : (l.getD k default).name.size ≤ 64
  ov : (l.getD k default).over < (l.getD k default).many
  le : (l.getD k default).many ≤ left
  last : (l.getD k default).over ≤ (l.getD (l.length - 1) default).many
  full : (l.getD k default).over = 0 ∨ ¬ l.length < room
  ord : k = 0 ∨ ahead (l.getD (k - 1) default) (l.getD k default) = true
structure RightP (room seen : Nat) (l : List It) : Prop where
  len : l.length ≤ room
  sn : seen ≤ 4611686018427387904
  ok : ∀ k, k < l.length → OkAt room l (seen - sumQ l k) k
  sum : (l.map (·.many)).sum = seen

theorem wrap_sub (a b : Nat) (h : b ≤ a) (ha : a < 18446744073709551616) : IntKind.u64.wrap ((a : Int) - b) = ((a - b : Nat) : Int) := by
  simp [IntKind.wrap, IntKind.bits, IntKind.signed]
  omega
theorem add_le_of (a b s : Nat) (h : b ≤ s - a) (h0 : a ≤ s) : a + b ≤ s := by omega
/-- What follows is put aside. -/
theorem still_gen {P : Program} {arr : Array Oper} {w : World} {K : Act → Prop} {l : List Oper} {a : Act} (h : ∀ K' : Act → Prop, Hid (∀ a', K a' → K' a') → wpStill P arr w K' l a) : wpStill P arr w K l a := h K (Lib.hid (fun _ h => h))
theorem pred43 (x : It) (xb : Nat) (w : World) (hx : w.cell? ⟨xb, 0, none⟩ = some (.string x.name)) (hb : xb < w.heap.size) :
    PredBelow Try.prog 43 #[.pointer (some ⟨xb, 0, none⟩)] (fun y => .agg (encI y).toArray) (fun y => y.name.toList == x.name.toList) w := fun W y hB => by
  have hc : W.cell? ⟨xb, 0, none⟩ = some (.string x.name) := (hB.cell (p := ⟨xb, 0, none⟩) hb).trans hx
  have hBW : xb < W.heap.size := Nat.lt_of_lt_of_le hb hB.size
  have hne : xb ≠ W.heap.size := by omega
  show Calls Try.prog 43 #[.agg #[.string y.name, .int .u64 y.many, .int .u64 y.over], .pointer (some ⟨xb, 0, none⟩)] W _
  show Calls Try.prog 43 #[.agg #[.string y.name, .int .u64 y.many, .int .u64 y.over], .pointer (some ⟨xb, 0, none⟩)] W fun e w' => e = .returned (.bool (y.name.toList == x.name.toList)) ∧ Below w.heap.size w w'
  obtain ⟨r, hr⟩ : ∃ r, (y.name.toList == x.name.toList) = r := ⟨_, rfl⟩
  rw [hr]
  go_enter Try.func43, Try.ntmps43
  go_wp2_with fail
  go_ret
  exact ⟨rfl, hB.alloc hB.size _⟩
theorem contains_call (x : It) (xb : Nat) (w : World) (hx : w.cell? ⟨xb, 0, none⟩ = some (.string x.name)) (hxb : xb < w.heap.size) (b off n c k : Nat) (l : List It) (hk : k ≤ n) (hn : n ≤ 9223372036854775807) (R : ItRow w (some ⟨b, off, none⟩) n l) (h0 : 0 < n) :
    Calls Try.prog 42 #[.slice (some ⟨b, off, none⟩) k c, .func (.func 43) #[] #[.pointer (some ⟨xb, 0, none⟩)]] w fun e w' => e = .returned (.bool ((l.take k).any fun y => y.name.toList == x.name.toList)) ∧ Below w.heap.size w w' := by
  have eg : ∀ args w, (callFunc 43 args).run Try.prog w = .ok (.enter 43 args) w := enters_of Try.func43 (by kernel_rfl) rfl
  obtain ⟨b', off', hA, hbl, hcell⟩ := R.at_ h0
  cases hA
  have hcon := AnyQ.slices_ContainsFunc Try.containsIt 3 Try.isAgg35 Try.sizeOf35 encI (fun _ => rfl) (fun y => y.name.toList == x.name.toList) 43 #[.pointer (some ⟨xb, 0, none⟩)] eg b off k c l w (pred43 x xb w hx hxb) (by rw [R.len]; exact hk) (by omega) hbl (fun j hj i v hi => by
    have h1 := hcell j (by rw [← R.len]; exact hj)
    have e : l[j]! = l.getD j default := by rw [it_get l j hj, getElem!_pos l j hj]
    rw [e] at hi
    generalize l.getD j default = y at hi h1
    match i, hi with
    | 0, hi => simp [encI] at hi; rw [← hi]; exact h1.1
    | 1, hi => simp [encI] at hi; rw [← hi]; exact h1.2.1
    | 2, hi => simp [encI] at hi; rw [← hi]; exact h1.2.2
    | i + 3, hi => simp [encI] at hi)
  exact hcon

/-- It returns whether P. -/
def Answers (P : Prop) (e : Ending) : Prop := (P ∧ e = .returned (.bool true)) ∨ (¬ P ∧ e = .returned (.bool false))
theorem answers_no {P : Prop} (h : ¬ P) : Answers P (.returned (.bool false)) := .inr ⟨h, rfl⟩
theorem answers_yes {P : Prop} (h : P) : Answers P (.returned (.bool true)) := .inl ⟨h, rfl⟩

end Go.Proofs.Ytcbheekfdhklcaa
