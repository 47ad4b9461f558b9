/- Rows of whole numbers that the call made, and append onto them: of numbers that came in, or of one. Plain lemmas; no program in sight. -/
import Derived.Test.YtapiehddcdnadaaDoorRow
import Derived.Maps.AppendAt
import Derived.RegionTactic
import Derived.OwnWalk
namespace Go.Proofs.YtapiehddcdnadaaDoor
open Go.RowKit
set_option linter.unusedVariables false
set_option linter.unusedSimpArgs false

theorem addr_add (b off j : Nat) : (⟨b, off, none⟩ : Addr).add j = ⟨b, off + j, none⟩ := by
  unfold Addr.add; split <;> simp_all

/-- The slice at A of n elements, made by the call (no block below base), holds the numbers xs. -/
structure Own (k : IntKind) (e : TypeId) (w : World) (base : Nat) (A : Option Addr) (n c : Nat) (xs : List Int) : Prop where
  own : w.ownsRow base e 1 (.slice A n c) n (xs.map (Value.int k))
  wf : ∀ x ∈ xs, (Lit.int k x).wf = true

section
variable {k : IntKind} {e : TypeId} {w w' : World} {base : Nat} {A : Option Addr} {n c : Nat} {xs : List Int}
theorem Own.nil : Own k e w base none 0 0 [] := ⟨World.ownsRow_nil w base e 1, fun x hx => by cases hx⟩
theorem Own.len (h : Own k e w base A n c xs) : xs.length = n := by have := h.own.1; simpa using this
theorem Own.le (h : Own k e w base A n c xs) : n ≤ c := by
  rcases h.own.2 with ⟨e1, e2⟩ | ⟨g, cap, cur, e1, hb, hg, hnc, hcm, hcs, ht⟩
  · injection e1 with _ h0 _; omega
  · injection e1 with h0 h1 h2; omega
theorem Own.ints (h : Own k e w base A n c xs) : Ints k w A n xs := by
  refine ⟨h.len, h.wf, fun hn => ?_⟩
  rcases h.own.2 with ⟨e1, e2⟩ | ⟨g, cap, cur, e1, hb, hg, hnc, hcm, hcs, ht⟩
  · injection e1 with _ h0 _; omega
  · injection e1 with h0 h1 h2
    subst h0
    have hc := h.own.cells (g := g) rfl
    refine ⟨g, 0, rfl, ?_, fun i hi => ?_⟩
    · rcases Nat.lt_or_ge g w.heap.size with h3 | h3
      · exact h3
      · rw [Array.getElem?_eq_none h3] at hg; cases hg
    · have h4 := hc i (.int k (xs.getD i 0)) (by rw [List.getElem?_map, List.getD_eq_getElem?_getD, List.getElem?_eq_getElem (by rw [h.len]; exact hi)]; rfl)
      rw [addr_add] at h4; exact h4
theorem Own.kept {row : Option Nat} (hg : w.grownBy w' row) (h : Own k e w base A n c xs) (hne : Value.ownBlock (.slice A n c) = none ∨ Value.ownBlock (.slice A n c) ≠ row) : Own k e w' base A n c xs := ⟨h.own.kept hg hne, h.wf⟩
theorem Own.step (hb : Below w.heap.size w w') (h : Own k e w base A n c xs) : Own k e w' base A n c xs := by
  refine h.kept (only_of_below hb none) ?_
  rcases Value.ownBlock (.slice A n c) with _ | g
  · exact .inl rfl
  · exact .inr (by simp)
theorem Own.lt (h : Own k e w base A n c xs) (g : Nat) (hg : Value.ownBlock (.slice A n c) = some g) : base ≤ g ∧ g < w.heap.size := h.own.lt g hg
/-- An append turned nothing below the call's own blocks. -/
theorem Own.below {W : World} (h : Own k e w base A n c xs) (hB : Below base W w) (hb : base ≤ w.heap.size) (hg : w.grownBy w' (Value.ownBlock (.slice A n c))) : Below base W w' :=
  ⟨hg.os.trans hB.os, hg.tape.trans hB.tape, hg.output.trans hB.output, Nat.le_trans hB.size hg.size, fun i hi => (hg.block i (Nat.lt_of_lt_of_le hi hb) (fun e => by have := (h.lt i e.symm).1; omega)).trans (hB.block i hi)⟩
end

theorem ints_one {k : IntKind} {w : World} {g : Nat} {t : TypeId} {x : Int} (h : Blk w g t #[.int k x]) (hx : (Lit.int k x).wf = true) : Ints k w (some ⟨g, 0, none⟩) 1 [x] :=
  ⟨rfl, fun y hy => by rw [List.mem_singleton.1 hy]; exact hx, fun _ => ⟨g, 0, rfl, h.lt, fun i hi => by
    obtain rfl : i = 0 := by omega
    exact h.cellAt 0 rfl⟩⟩

section
variable {P : Program} (w : World)
theorem run_app_none (t ty e : TypeId) (i : TypeInfo) (ht : P.underlying t = some (.slice e)) (hi : P.info? e = some i) {k : IntKind} {base : Nat} {A : Option Addr} {n c : Nat} {xs : List Int} (h : Own k e w base A n c xs) (c2 : Nat) :
    (Builtin.append_ #[t, t] ty #[.slice A n c, .slice none 0 c2]).run P w = .ok (.slice A n c) w := by
  rcases h.own.2 with ⟨h0, rfl⟩ | ⟨g, cap, cur, h0, _, _, hnc, _⟩ <;> rw [h0]
  · simp [Builtin.append_, run_underlying ht, sizeOf, typeInfo, hi, Builtin.lenOf, Builtin.firstCells]
  · simp [Builtin.append_, run_underlying ht, sizeOf, typeInfo, hi, Builtin.lenOf, Builtin.firstCells, hnc, storeCells]

theorem ints_cells {k : IntKind} {ad : Addr} {m : Nat} {ys : List Int} (h : Ints k w (some ad) m ys) : ∀ j u, (ys.map (Value.int k))[j]? = some u → w.cell? (ad.add j) = some u := by
  intro j u hu
  rw [List.getElem?_map] at hu
  have hj : j < ys.length := by
    rcases Nat.lt_or_ge j ys.length with h1 | h1
    · exact h1
    · rw [List.getElem?_eq_none h1] at hu; cases hu
  have hl := h.len
  obtain ⟨b, off, ha, hlt, hc⟩ := h.at_ (by omega)
  obtain rfl : ad = ⟨b, off, none⟩ := Option.some.inj ha
  rw [List.getElem?_eq_getElem hj] at hu
  have h2 := hc j (by omega)
  rw [List.getD_eq_getElem?_getD, List.getElem?_eq_getElem hj] at h2
  rw [← Option.some.inj hu]
  rw [addr_add]; exact h2

theorem run_app (t ty e : TypeId) (i : TypeInfo) (bytes : Nat) {k : IntKind} (ht : P.underlying t = some (.slice e)) (hi : P.info? e = some i) (hz : i.zero = some (.int k 0)) (hsize : i.size = 1) (hby : i.bytes = bytes)
    {base : Nat} {A : Option Addr} {n c : Nat} {xs : List Int} (h : Own k e w base A n c xs) {A2 : Option Addr} {m : Nat} (c2 : Nat) {ys : List Int} (hs : Ints k w A2 m ys)
    (hbytes : (n + m) * bytes ≤ 140737488355328) (hb8 : 1 ≤ bytes) (hbase : base ≤ w.heap.size) :
    ∃ A' c' w', (Builtin.append_ #[t, t] ty #[.slice A n c, .slice A2 m c2]).run P w = .ok (.slice A' (n + m) c') w' ∧ Own k e w' base A' (n + m) c' (xs ++ ys) ∧ w.grownBy w' (Value.ownBlock (.slice A n c)) ∧
      (Value.ownBlock (.slice A' (n + m) c') = Value.ownBlock (.slice A n c) ∨ Value.ownBlock (.slice A' (n + m) c') = some w.heap.size) := by
  have hwf : ∀ x ∈ xs ++ ys, (Lit.int k x).wf = true := fun x hx => by rcases List.mem_append.1 hx with h1 | h1; exact h.wf x h1; exact hs.wf x h1
  have h63 : n + m ≤ maxLen := by
    have := Nat.le_mul_of_pos_right (n + m) hb8
    simp only [maxLen]; omega
  rcases A2 with _ | ad
  · obtain rfl : m = 0 := by
      rcases Nat.eq_zero_or_pos m with h0 | h0
      · exact h0
      · obtain ⟨b, off, ha, _⟩ := hs.at_ h0; cases ha
    obtain rfl : ys = [] := List.eq_nil_of_length_eq_zero hs.len
    exact ⟨A, c, w, run_app_none w t ty e i ht hi h c2, by rw [List.append_nil]; exact h, only_refl _ _, .inl rfl⟩
  · obtain ⟨v', w', hr, h2, h3, _, h5⟩ := run_append_own_at (P := P) w base t ty e i _ 1 bytes ht hi hz hsize hby rfl (by omega) _ n _ h.own ad m c2 (ys.map (Value.int k)) (by simpa using hs.len) (ints_cells w hs)
      (fun u hu => by obtain ⟨x, _, rfl⟩ := List.mem_map.1 hu; rfl) h63 hbytes hbase
    rw [← List.map_append] at h2
    obtain ⟨A', c', rfl⟩ : ∃ A' c', v' = .slice A' (n + m) c' := by
      rcases h2.2 with ⟨rfl, h0⟩ | ⟨g, cap, cur, rfl, _⟩
      · exact ⟨none, 0, by rw [h0]⟩
      · exact ⟨_, _, rfl⟩
    exact ⟨A', c', w', hr, ⟨h2, hwf⟩, h3, h5⟩

theorem wp_app {o : Oper} {a : Act} {K : Act → World → Prop} {Q : Exit → Act → World → Prop} (s x : Operand) (t : TypeId)
    (ho : o.op = .call { callee := .builtin .append, args := #[s, x], argTypes := #[t, t] }) (e : TypeId) (i : TypeInfo) (bytes : Nat) (k : IntKind) (ht : P.underlying t = some (.slice e)) (hi : P.info? e = some i) (hz : i.zero = some (.int k 0)) (hsize : i.size = 1) (hby : i.bytes = bytes)
    (base : Nat) (A : Option Addr) (n c : Nat) (xs : List Int) (h : Own k e w base A n c xs) (hsv : a.eval s = .slice A n c) (A2 : Option Addr) (m : Nat) (c2 : Nat) (ys : List Int) (hs : Ints k w A2 m ys) (hxv : a.eval x = .slice A2 m c2)
    (hbytes : (n + m) * bytes ≤ 140737488355328) (hb8 : 1 ≤ bytes) (hbase : base ≤ w.heap.size)
    (hK : ∀ A' c' w', Own k e w' base A' (n + m) c' (xs ++ ys) → w.grownBy w' (Value.ownBlock (.slice A n c)) → (Value.ownBlock (.slice A' (n + m) c') = Value.ownBlock (.slice A n c) ∨ Value.ownBlock (.slice A' (n + m) c') = some w.heap.size) → K (a.put o.dst (.slice A' (n + m) c')) w') : o.wp P a w K Q := by
  obtain ⟨A', c', w', hr, h2, h3, h4⟩ := run_app (P := P) w t o.type e i bytes ht hi hz hsize hby h c2 hs hbytes hb8 hbase
  unfold Oper.wp execOp
  simp only [ho, resolve, invoke, builtin, Sem.run_bind, Sem.run_pure, Result.andThen_ok, List.map_toArray, List.map_cons, List.map_nil, hsv, hxv, hr]
  exact hK A' c' w' h2 h3 h4

theorem wpList_app {ops : Array Oper} {rest : List Oper} {o : Oper} {a : Act} {Q : Exit → Act → World → Prop} (hgd : o.guard = none) (s x : Operand) (t : TypeId)
    (ho : o.op = .call { callee := .builtin .append, args := #[s, x], argTypes := #[t, t] }) (e : TypeId) (i : TypeInfo) (bytes : Nat) (k : IntKind) (ht : P.underlying t = some (.slice e)) (hi : P.info? e = some i) (hz : i.zero = some (.int k 0)) (hsize : i.size = 1) (hby : i.bytes = bytes)
    (base : Nat) (A : Option Addr) (n c : Nat) (xs : List Int) (h : Own k e w base A n c xs) (hsv : a.eval s = .slice A n c) (A2 : Option Addr) (m : Nat) (c2 : Nat) (ys : List Int) (hs : Ints k w A2 m ys) (hxv : a.eval x = .slice A2 m c2)
    (hbytes : (n + m) * bytes ≤ 140737488355328) (hb8 : 1 ≤ bytes) (hbase : base ≤ w.heap.size)
    (hK : ∀ A' c' w', Own k e w' base A' (n + m) c' (xs ++ ys) → w.grownBy w' (Value.ownBlock (.slice A n c)) → (Value.ownBlock (.slice A' (n + m) c') = Value.ownBlock (.slice A n c) ∨ Value.ownBlock (.slice A' (n + m) c') = some w.heap.size) → wpList P ops Q rest (a.put o.dst (.slice A' (n + m) c')) w') : wpList P ops Q (o :: rest) a w :=
  wpList_plain hgd fun _ hk => wp_app w s x t ho e i bytes k ht hi hz hsize hby base A n c xs h hsv A2 m c2 ys hs hxv hbytes hb8 hbase fun A' c' w' h2 h3 h4 => hk _ _ (hK A' c' w' h2 h3 h4)

theorem step_app {ops : Array Oper} {o : Oper} {a : Act} {K : Act → World → Prop} {Q : Exit → Act → World → Prop} {E : Prop} (hgd : o.guard = none) (s x : Operand) (t : TypeId)
    (ho : o.op = .call { callee := .builtin .append, args := #[s, x], argTypes := #[t, t] }) (e : TypeId) (i : TypeInfo) (bytes : Nat) (k : IntKind) (ht : P.underlying t = some (.slice e)) (hi : P.info? e = some i) (hz : i.zero = some (.int k 0)) (hsize : i.size = 1) (hby : i.bytes = bytes)
    (base : Nat) (A : Option Addr) (n c : Nat) (xs : List Int) (h : Own k e w base A n c xs) (hsv : a.eval s = .slice A n c) (A2 : Option Addr) (m : Nat) (c2 : Nat) (ys : List Int) (hs : Ints k w A2 m ys) (hxv : a.eval x = .slice A2 m c2)
    (hbytes : (n + m) * bytes ≤ 140737488355328) (hb8 : 1 ≤ bytes) (hbase : base ≤ w.heap.size)
    (hK : ∀ A' c' w', Own k e w' base A' (n + m) c' (xs ++ ys) → w.grownBy w' (Value.ownBlock (.slice A n c)) → (Value.ownBlock (.slice A' (n + m) c') = Value.ownBlock (.slice A n c) ∨ Value.ownBlock (.slice A' (n + m) c') = some w.heap.size) → K (a.put o.dst (.slice A' (n + m) c')) w') :
    if Region.wanted o (yielded ops a.tmps) = true then Oper.wp P o a w K Q else E := by
  have hw : Region.wanted o (yielded ops a.tmps) = true := by simp [Region.wanted, hgd]
  rw [if_pos hw]
  exact wp_app w s x t ho e i bytes k ht hi hz hsize hby base A n c xs h hsv A2 m c2 ys hs hxv hbytes hb8 hbase hK
end
end Go.Proofs.YtapiehddcdnadaaDoor
