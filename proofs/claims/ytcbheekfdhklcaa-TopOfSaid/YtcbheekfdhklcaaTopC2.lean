/- Clone of items, whoever's they are; Of, either answer. -/
import Derived.Test.YtcbheekfdhklcaaTopI1
import Derived.Test.YtcbheekfdhklcaaTopS
namespace Go.Proofs.Ytcbheekfdhklcaa
open Go.RowKit
set_option linter.unusedVariables false
set_option linter.unusedSimpArgs false

theorem run_appE {P : Program} {w : World} (t ty e : TypeId) (i : TypeInfo) (ht : P.underlying t = some (.slice e)) (hi : P.info? e = some i) {base size : Nat} {A X : Option Addr} {n c : Nat} {xs : List Value} (h : w.ownsRow base e size (.slice A n c) n xs) (c2 : Nat) :
    (Builtin.append_ #[t, t] ty #[.slice A n c, .slice X 0 c2]).run P w = .ok (.slice A n c) w := by
  cases X with
  | none => exact run_app0 t ty e i ht hi h c2
  | some a =>
    have hl : (loadCells a 0).run P w = .ok #[] w := by simpa using run_loadCells_list (P := P) w a [] (by simp)
    rcases h.2 with ⟨h0, rfl⟩ | ⟨g, cap, cur, h0, _, _, hnc, _⟩ <;> rw [h0]
    · simp [Builtin.append_, run_underlying ht, sizeOf, typeInfo, hi, Builtin.lenOf, Builtin.firstCells, hl]
    · simp [Builtin.append_, run_underlying ht, sizeOf, typeInfo, hi, Builtin.lenOf, Builtin.firstCells, hnc, hl, storeCells]
theorem wpList_appE {P : Program} {w : World} {ops : Array Oper} {rest : List Oper} {o : Oper} {a : Act} {Q : Exit → Act → World → Prop} (hgd : o.guard = none) (s x : Operand) (t : TypeId)
    (ho : o.op = .call { callee := .builtin .append, args := #[s, x], argTypes := #[t, t] }) (e : TypeId) (i : TypeInfo) (ht : P.underlying t = some (.slice e)) (hi : P.info? e = some i)
    (base size : Nat) (A X : Option Addr) (n c : Nat) (xs : List Value) (h : w.ownsRow base e size (.slice A n c) n xs) (hsv : a.eval s = .slice A n c) (c2 : Nat) (hxv : a.eval x = .slice X 0 c2)
    (hK : wpList P ops Q rest (a.put o.dst (.slice A n c)) w) : wpList P ops Q (o :: rest) a w := by
  refine wpList_plain hgd fun K hk => ?_
  have hr := run_appE (P := P) t o.type e i ht hi h (X := X) c2
  unfold Oper.wp execOp
  simp only [ho, resolve, invoke, builtin, Sem.run_bind, Sem.run_pure, Result.andThen_ok, List.map_toArray, List.map_cons, List.map_nil, hsv, hxv, hr]
  exact hk _ _ hK

theorem clone_empty (a : Addr) (c : Nat) (w : World) :
    Calls Try.prog 28 #[.slice (some a) 0 c] w fun e w' => ∃ A' c', e = .returned (.slice A' 0 c') ∧ Its w' w.heap.size A' 0 c' [] ∧ Below w.heap.size w w' := by
  obtain ⟨i0, hi0, hz0, hz1, hz2⟩ := info_parts info_item
  have q := fun (w : World) (a : Option Addr) (n c n' c' : Nat) => Lib.run_eql_slice_nil w _ _ a n c n' c' Try.underlying31
  have hm := World.ownsRow_made (e := 35) (size := 3) w #[] 0 (Nat.le_refl _) (Nat.zero_le _) (by simp)
  have hB : Below w.heap.size w (w.alloc (.cells #[] 35)) := balloc (Below.refl _ _) _
  go_enter Try.func28, Try.ntmps28
  go_wp2_with (at_builtin; refine wpList_appE rfl (.tmp 5) (.tmp 6) 31 rfl 35 i0 Try.underlying31 hi0 w.heap.size 3 (some ⟨w.heap.size, 0, none⟩) (some a) 0 0 [] hm rfl c rfl ?_)
  go_ret
  exact ⟨_, _, rfl, ⟨hm⟩, hB⟩
theorem clone_any (A : Option Addr) (n c : Nat) (l : List It) (w : World) (R : ItRow w A n l) (hn : n ≤ 4398046511103) :
    Calls Try.prog 28 #[.slice A n c] w fun e w' => ∃ A' c', e = .returned (.slice A' n c') ∧ Its w' w.heap.size A' n c' l ∧ Below w.heap.size w w' := by
  have hln := R.len
  rcases Nat.eq_zero_or_pos n with h0 | h0
  · subst h0
    have hl : l = [] := List.eq_nil_of_length_eq_zero hln
    subst hl
    cases A with
    | none =>
      have hcon := AnyE.slices_Clone_nil Try.cloneIt 0 c w
      change Calls Try.prog 28 _ _ _ at hcon
      refine hcon.mono ?_
      rintro e w1 ⟨rfl, rfl⟩
      exact ⟨none, 0, rfl, ⟨World.ownsRow_nil _ _ _ 3⟩, Below.refl _ _⟩
    | some a => exact clone_empty a c w
  · obtain ⟨b, off, rfl, hbl, hc⟩ := R.at_ h0
    obtain ⟨i0, hi0, hz0, hz1, hz2⟩ := info_parts info_item
    have hcells : ∀ j u, (flat l)[j]? = some u → w.cell? ⟨b, off + j, none⟩ = some u := fun j u hu => by
      have hj : j < l.length * 3 := by
        rcases Nat.lt_or_ge j (flat l).length with h | h
        · rwa [flat_len] at h
        · rw [List.getElem?_eq_none h] at hu; cases hu
      obtain ⟨q, r, hr, rfl⟩ : ∃ q r, r < 3 ∧ j = q * 3 + r := ⟨j / 3, j % 3, Nat.mod_lt _ (by omega), by omega⟩
      rw [flat_get l q r (by omega) hr] at hu
      obtain ⟨x, y, z⟩ := hc q (by omega)
      rw [← Nat.add_assoc]
      match r, hr, hu with
      | 0, _, hu => simp [encI] at hu; rw [← hu]; exact x
      | 1, _, hu => simp [encI] at hu; rw [← hu]; exact y
      | 2, _, hu => simp [encI] at hu; rw [← hu]; exact z
    have hcon := AnyE.slices_Clone Try.cloneIt i0 _ 3 32 hi0 hz0 hz1 hz2 rfl (by omega) Try.sizeOf35 b off n c (flat l) w (by rw [flat_len, hln]) (by simp only [maxLen]; omega) (by omega) hcells (flat_one l)
    change Calls Try.prog 28 _ _ _ at hcon
    refine hcon.mono ?_
    rintro e w1 ⟨v', rfl, hown, hnil, hB⟩
    have hown' : w1.ownsRow w.heap.size 35 3 v' n (flat l) := hown
    obtain ⟨A', c', rfl⟩ := own_form hown'
    exact ⟨A', c', rfl, ⟨hown'⟩, hB⟩

/-- Of: the top, or none. -/
def OfAns (base room seen g : Nat) (l : List It) (e : Ending) (w' : World) : Prop :=
  (RightP room seen l ∧ ∃ A' n c', e = .returned (.tuple #[.pointer (some ⟨g, 0, none⟩), .int .i64 0]) ∧ Tp w' base g room seen A' n c' l ∧ (∀ q, Value.ownBlock (.slice A' n c') = some q → g ≤ q)) ∨ (¬ RightP room seen l ∧ e = .returned (.tuple #[.pointer none, .int .i64 2]))
set_option maxRecDepth 100000 in
set_option maxHeartbeats 2000000 in
theorem of_call (base room seen : Nat) (A : Option Addr) (n c : Nat) (l : List It) (w : World) (hb : base ≤ w.heap.size) (hrm : 1 ≤ room ∧ room ≤ 16) (R : ItRow w A n l) (hnc : n ≤ c) (hn : n ≤ 4398046511103) (hs : seen < 18446744073709551616) (hbd : ∀ x ∈ l, x.many < 18446744073709551616 ∧ x.over < 18446744073709551616 ∧ x.name.size ≤ 9223372036854775807) :
    Calls Try.prog 20 #[.int .i64 room, .int .u64 seen, .slice A n c] w fun e w' => OfAns base room seen w.heap.size l e w' ∧ Below w.heap.size w w' := by
  have hln := R.len
  have hN := new_yes room hrm.1 hrm.2 base w hb
  have HRC := Lib.hid (fun W (R : ItRow W A n l) => right_call room seen A n c l W R hnc (by omega) hrm.2 hs hbd)
  clear hbd
  by_cases hR : RightP room seen l
  · have HR := Lib.hid hR
    have hlr := hR.len
    have hsn := hR.sn
    have hmany : ∀ x ∈ l, x.many ≤ 4611686018427387904 ∧ x.over ≤ 4611686018427387904 := fun x hx => by
      have h1 := mem_le_sum hx
      rw [hR.sum] at h1
      obtain ⟨i, hi, rfl⟩ := List.mem_iff_getElem.1 hx
      have h3 := (hR.ok i hi).ov
      rw [it_get l i hi] at h3
      exact ⟨by omega, by omega⟩
    have HM := Lib.hid hmany
    clear hR hmany
    go_enter Try.func20, Try.ntmps20
    go_wp2_with (first
      | (go_at_call 10
         refine hN.mono ?_
         rintro e w1 ⟨rfl, T1, b1, l1⟩
         have R1 := R.step b1)
      | (go_at_call 36
         refine (HRC.out w1 R1).mono ?_
         rintro e w2 ⟨h, b2⟩
         have h' : e = .returned (.bool true) := (by rcases h with ⟨_, h⟩ | ⟨h, _⟩; exact h; exact absurd HR.out h)
         subst h'
         have R2 := R1.step b2
         have T2 := T1.step b2)
      | (go_at_call 28
         refine (clone_any A n c l w2 R2 hn).mono ?_
         rintro e w3 ⟨A', c', rfl, I3, b3⟩
         have T3 := T2.step b3
         have c0 : w3.cell? ⟨w.heap.size, 0, none⟩ = some (.slice none 0 0) := T3.blk.cellAt 0 rfl
         have c2 : w3.cell? ⟨w.heap.size, 2, none⟩ = some (.int .u64 0) := T3.blk.cellAt 2 rfl
         have f0 := T3.blk.frozen 0
         have f2 := (T3.blk.put 0 (.slice A' n c')).frozen 2
         have hfar := I3.far T3.blk (by decide)
         have hlt3 := T3.blk.lt
         have BB : Blk ((w3.setCell ⟨w.heap.size, 0, none⟩ (.slice A' n c')).setCell ⟨w.heap.size, 2, none⟩ (.int .u64 seen)) w.heap.size 63 #[.slice A' n c', .int .i64 room, .int .u64 seen] := (T3.blk.put 0 (.slice A' n c')).put 2 (.int .u64 seen)
         have hG : w3.grownBy ((w3.setCell ⟨w.heap.size, 0, none⟩ (.slice A' n c')).setCell ⟨w.heap.size, 2, none⟩ (.int .u64 seen)) (some w.heap.size) := only_setCell (p := ⟨w.heap.size, 2, none⟩) (only_setCell (p := ⟨w.heap.size, 0, none⟩) (only_refl _ _) (.inl rfl) _) (.inl rfl) _
         have b123 : Below w.heap.size w w3 := bstep b3 (bstep b2 b1)))
    go_ret2
    have hbb : w.heap.size ≤ w2.heap.size := (bstep b2 b1).size
    refine ⟨.inl ⟨HR.out, A', n, c', rfl, ⟨BB, ⟨(I3.own.kept hG (.inr (fun e => hfar e.symm))).mono (by omega)⟩, hb, hrm, by omega, by omega, fun x hx => ⟨(HM.out x hx).1, (HM.out x hx).2⟩⟩, fun q hq => ?_⟩, bonly b123 hG (Nat.le_refl _)⟩
    have := (I3.own.lt q hq).1
    omega
  · have HR := Lib.hid hR
    clear hR
    go_enter Try.func20, Try.ntmps20
    go_wp2_with (first
      | (go_at_call 10
         refine hN.mono ?_
         rintro e w1 ⟨rfl, T1, b1, l1⟩
         have R1 := R.step b1)
      | (go_at_call 36
         refine (HRC.out w1 R1).mono ?_
         rintro e w2 ⟨h, b2⟩
         have h' : e = .returned (.bool false) := (by rcases h with ⟨h, _⟩ | ⟨_, h⟩; exact absurd h HR.out; exact h)
         subst h'))
    go_ret2
    exact ⟨.inr ⟨HR.out, rfl⟩, bstep b2 b1⟩
end Go.Proofs.Ytcbheekfdhklcaa
