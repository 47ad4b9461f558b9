/- Clone of items, whoever's they are; Of, either answer. The reference's Items. The program's top beside the reference's. Add at a name of any length. TopPlays: the plain law. -/
import Derived.Test.YtapiehddcdnadaaGreatDoorM11
import Derived.Test.YtapiehddcdnadaaGreatDoorM10
import Derived.Test.YtapiehddcdnadaaGreatDoorM8
namespace Go.Proofs.YtapiehddcdnadaaGreatDoor
open Go.RowKit
set_option linter.unusedVariables false
set_option linter.unusedSimpArgs false

theorem run_appE {P : Program} {w : World} (t ty e : TypeId) (i : TypeInfo) (ht : P.underlying t = some (.slice e)) (hi : P.info? e = some i) {base size : Nat} {A X : Option Addr} {n c : Nat} {xs : List Value} (h : w.ownsRow base e size (.slice A n c) n xs) (c2 : Nat) :
    (Builtin.append_ #[t, t] ty #[.slice A n c, .slice X 0 c2]).run P w = .ok (.slice A n c) w := by
  cases X with
  | none => exact run_app0 t ty e i ht hi h c2
  | some a =>
    have hl : (loadCells a 0).run P w = .ok #[] w := by simpa using run_loadCells_list (P := P) w a [] (by simp)
    rcases h.2 with ⟨h0, rfl⟩ | ⟨g, cap, cur, h0, _, _, hnc, _⟩ <;> rw [h0]
    · simp [Builtin.append_, run_underlying ht, sizeOf, typeInfo, hi, Builtin.lenOf, Builtin.firstCells, hl]
    · simp [Builtin.append_, run_underlying ht, sizeOf, typeInfo, hi, Builtin.lenOf, Builtin.firstCells, hnc, hl, storeCells]
theorem wpList_appE {P : Program} {w : World} {ops : Array Oper} {rest : List Oper} {o : Oper} {a : Act} {Q : Exit → Act → World → Prop} (hgd : o.guard = none) (s x : Operand) (t : TypeId)
    (ho : o.op = .call { callee := .builtin .append, args := #[s, x], argTypes := #[t, t] }) (e : TypeId) (i : TypeInfo) (ht : P.underlying t = some (.slice e)) (hi : P.info? e = some i)
    (base size : Nat) (A X : Option Addr) (n c : Nat) (xs : List Value) (h : w.ownsRow base e size (.slice A n c) n xs) (hsv : a.eval s = .slice A n c) (c2 : Nat) (hxv : a.eval x = .slice X 0 c2)
    (hK : wpList P ops Q rest (a.put o.dst (.slice A n c)) w) : wpList P ops Q (o :: rest) a w := by
  refine wpList_plain hgd fun K hk => ?_
  have hr := run_appE (P := P) t o.type e i ht hi h (X := X) c2
  unfold Oper.wp execOp
  simp only [ho, resolve, invoke, builtin, Sem.run_bind, Sem.run_pure, Result.andThen_ok, List.map_toArray, List.map_cons, List.map_nil, hsv, hxv, hr]
  exact hk _ _ hK

theorem clone_empty (a : Addr) (c : Nat) (w : World) :
    Calls Tryz.prog 73 #[.slice (some a) 0 c] w fun e w' => ∃ A' c', e = .returned (.slice A' 0 c') ∧ Its w' w.heap.size A' 0 c' [] ∧ Below w.heap.size w w' := by
  obtain ⟨i0, hi0, hz0, hz1, hz2⟩ := info_parts info_item
  have q := fun (w : World) (a : Option Addr) (n c n' c' : Nat) => Lib.run_eql_slice_nil w _ _ a n c n' c' Tryz.underlying57
  have hm := World.ownsRow_made (e := 75) (size := 3) w #[] 0 (Nat.le_refl _) (Nat.zero_le _) (by simp)
  have hB : Below w.heap.size w (w.alloc (.cells #[] 75)) := balloc (Below.refl _ _) _
  go_enter Tryz.func73, Tryz.ntmps73
  go_wp2_with (at_builtin; refine wpList_appE rfl (.tmp 5) (.tmp 6) 57 rfl 75 i0 Tryz.underlying57 hi0 w.heap.size 3 (some ⟨w.heap.size, 0, none⟩) (some a) 0 0 [] hm rfl c rfl ?_)
  go_ret
  exact ⟨_, _, rfl, ⟨hm⟩, hB⟩
theorem clone_any (A : Option Addr) (n c : Nat) (l : List It) (w : World) (R : ItRow w A n l) (hn : n ≤ 4398046511103) :
    Calls Tryz.prog 73 #[.slice A n c] w fun e w' => ∃ A' c', e = .returned (.slice A' n c') ∧ Its w' w.heap.size A' n c' l ∧ Below w.heap.size w w' := by
  have hln := R.len
  rcases Nat.eq_zero_or_pos n with h0 | h0
  · subst h0
    have hl : l = [] := List.eq_nil_of_length_eq_zero hln
    subst hl
    cases A with
    | none =>
      have hcon := AnyE.slices_Clone_nil Tryz.cloneIt 0 c w
      change Calls Tryz.prog 73 _ _ _ at hcon
      refine hcon.mono ?_
      rintro e w1 ⟨rfl, rfl⟩
      exact ⟨none, 0, rfl, ⟨World.ownsRow_nil _ _ _ 3⟩, Below.refl _ _⟩
    | some a => exact clone_empty a c w
  · obtain ⟨b, off, rfl, hbl, hc⟩ := R.at_ h0
    obtain ⟨i0, hi0, hz0, hz1, hz2⟩ := info_parts info_item
    have hcells : ∀ j u, (flat l)[j]? = some u → w.cell? ⟨b, off + j, none⟩ = some u := fun j u hu => by
      have hj : j < l.length * 3 := by
        rcases Nat.lt_or_ge j (flat l).length with h | h
        · rwa [flat_len] at h
        · rw [List.getElem?_eq_none h] at hu; cases hu
      obtain ⟨q, r, hr, rfl⟩ : ∃ q r, r < 3 ∧ j = q * 3 + r := ⟨j / 3, j % 3, Nat.mod_lt _ (by omega), by omega⟩
      rw [flat_get l q r (by omega) hr] at hu
      obtain ⟨x, y, z⟩ := hc q (by omega)
      rw [← Nat.add_assoc]
      match r, hr, hu with
      | 0, _, hu => simp [encI] at hu; rw [← hu]; exact x
      | 1, _, hu => simp [encI] at hu; rw [← hu]; exact y
      | 2, _, hu => simp [encI] at hu; rw [← hu]; exact z
    have hcon := AnyE.slices_Clone Tryz.cloneIt i0 _ 3 32 hi0 hz0 hz1 hz2 rfl (by omega) Tryz.sizeOf75 b off n c (flat l) w (by rw [flat_len, hln]) (by simp only [maxLen]; omega) (by omega) hcells (flat_one l)
    change Calls Tryz.prog 73 _ _ _ at hcon
    refine hcon.mono ?_
    rintro e w1 ⟨v', rfl, hown, hnil, hB⟩
    have hown' : w1.ownsRow w.heap.size 75 3 v' n (flat l) := hown
    obtain ⟨A', c', rfl⟩ := own_form hown'
    exact ⟨A', c', rfl, ⟨hown'⟩, hB⟩

/-- Of: the top, or none. -/
def OfAns (base room seen g : Nat) (l : List It) (e : Ending) (w' : World) : Prop :=
  (RightP room seen l ∧ ∃ A' n c', e = .returned (.tuple #[.pointer (some ⟨g, 0, none⟩), .int .i64 0]) ∧ Tp w' base g room seen A' n c' l ∧ (∀ q, Value.ownBlock (.slice A' n c') = some q → g ≤ q)) ∨ (¬ RightP room seen l ∧ e = .returned (.tuple #[.pointer none, .int .i64 2]))
set_option maxRecDepth 100000 in
set_option maxHeartbeats 2000000 in
theorem of_call (base room seen : Nat) (A : Option Addr) (n c : Nat) (l : List It) (w : World) (hb : base ≤ w.heap.size) (hrm : 1 ≤ room ∧ room ≤ 16) (R : ItRow w A n l) (hnc : n ≤ c) (hn : n ≤ 4398046511103) (hs : seen < 18446744073709551616) (hbd : ∀ x ∈ l, x.many < 18446744073709551616 ∧ x.over < 18446744073709551616 ∧ x.name.size ≤ 9223372036854775807) :
    Calls Tryz.prog 47 #[.int .i64 room, .int .u64 seen, .slice A n c] w fun e w' => OfAns base room seen w.heap.size l e w' ∧ Below w.heap.size w w' := by
  have hln := R.len
  have hN := new_yes room hrm.1 hrm.2 base w hb
  have HRC := Lib.hid (fun W (R : ItRow W A n l) => t_right_call room seen A n c l W R hnc (by omega) hrm.2 hs hbd)
  clear hbd
  by_cases hR : RightP room seen l
  · have HR := Lib.hid hR
    have hlr := hR.len
    have hsn := hR.sn
    have hmany : ∀ x ∈ l, x.many ≤ 4611686018427387904 ∧ x.over ≤ 4611686018427387904 := fun x hx => by
      have h1 := mem_le_sum hx
      rw [hR.sum] at h1
      obtain ⟨i, hi, rfl⟩ := List.mem_iff_getElem.1 hx
      have h3 := (hR.ok i hi).ov
      rw [it_get l i hi] at h3
      exact ⟨by omega, by omega⟩
    have HM := Lib.hid hmany
    clear hR hmany
    go_enter Tryz.func47, Tryz.ntmps47
    go_wp2_with (first
      | (go_at_call 31
         refine hN.mono ?_
         rintro e w1 ⟨rfl, T1, b1, l1⟩
         have R1 := R.step b1)
      | (go_at_call 72
         refine (HRC.out w1 R1).mono ?_
         rintro e w2 ⟨h, b2⟩
         have h' : e = .returned (.bool true) := (by rcases h with ⟨_, h⟩ | ⟨h, _⟩; exact h; exact absurd HR.out h)
         subst h'
         have R2 := R1.step b2
         have T2 := T1.step b2)
      | (go_at_call 73
         refine (clone_any A n c l w2 R2 hn).mono ?_
         rintro e w3 ⟨A', c', rfl, I3, b3⟩
         have T3 := T2.step b3
         have c0 : w3.cell? ⟨w.heap.size, 0, none⟩ = some (.slice none 0 0) := T3.blk.cellAt 0 rfl
         have c2 : w3.cell? ⟨w.heap.size, 2, none⟩ = some (.int .u64 0) := T3.blk.cellAt 2 rfl
         have f0 := T3.blk.frozen 0
         have f2 := (T3.blk.put 0 (.slice A' n c')).frozen 2
         have hfar := I3.far T3.blk (by decide)
         have hlt3 := T3.blk.lt
         have BB : Blk ((w3.setCell ⟨w.heap.size, 0, none⟩ (.slice A' n c')).setCell ⟨w.heap.size, 2, none⟩ (.int .u64 seen)) w.heap.size 122 #[.slice A' n c', .int .i64 room, .int .u64 seen] := (T3.blk.put 0 (.slice A' n c')).put 2 (.int .u64 seen)
         have hG : w3.grownBy ((w3.setCell ⟨w.heap.size, 0, none⟩ (.slice A' n c')).setCell ⟨w.heap.size, 2, none⟩ (.int .u64 seen)) (some w.heap.size) := only_setCell (p := ⟨w.heap.size, 2, none⟩) (only_setCell (p := ⟨w.heap.size, 0, none⟩) (only_refl _ _) (.inl rfl) _) (.inl rfl) _
         have b123 : Below w.heap.size w w3 := bstep b3 (bstep b2 b1)))
    go_ret2
    have hbb : w.heap.size ≤ w2.heap.size := (bstep b2 b1).size
    refine ⟨.inl ⟨HR.out, A', n, c', rfl, ⟨BB, ⟨(I3.own.kept hG (.inr (fun e => hfar e.symm))).mono (by omega)⟩, hb, hrm, by omega, by omega, fun x hx => ⟨(HM.out x hx).1, (HM.out x hx).2⟩⟩, fun q hq => ?_⟩, bonly b123 hG (Nat.le_refl _)⟩
    have := (I3.own.lt q hq).1
    omega
  · have HR := Lib.hid hR
    clear hR
    go_enter Tryz.func47, Tryz.ntmps47
    go_wp2_with (first
      | (go_at_call 31
         refine hN.mono ?_
         rintro e w1 ⟨rfl, T1, b1, l1⟩
         have R1 := R.step b1)
      | (go_at_call 72
         refine (HRC.out w1 R1).mono ?_
         rintro e w2 ⟨h, b2⟩
         have h' : e = .returned (.bool false) := (by rcases h with ⟨h, _⟩ | ⟨_, h⟩; exact absurd h HR.out; exact h)
         subst h'))
    go_ret2
    exact ⟨.inr ⟨HR.out, rfl⟩, bstep b2 b1⟩
end Go.Proofs.YtapiehddcdnadaaGreatDoor
namespace Go.Proofs.YtapiehddcdnadaaGreatDoor
open Go.RowKit
set_option linter.unusedVariables false
set_option linter.unusedSimpArgs false

set_option maxRecDepth 100000 in
set_option maxHeartbeats 4000000 in
theorem ritems_call {base g room seen : Nat} {A : Option Addr} {n c : Nat} {l : List It} {w : World} (T : Rp w base g room seen A n c l) :
    Calls Tryz.prog 54 #[.pointer (some ⟨g, 0, none⟩)] w fun e w' => ∃ A' c' s, e = .returned (.slice A' n c') ∧ Told l s ∧ RIts w' w.heap.size A' n c' s ∧ Below w.heap.size w w' := by
  have c0 : w.cell? ⟨g, 0, none⟩ = some (.slice A n c) := T.blk.cellAt 0 rfl
  have hlt := T.blk.lt
  have hln := T.its.len
  have hn16 : n ≤ 16 := by have := T.ln; have := T.rm; omega
  have HIT := Lib.hid T.its
  obtain ⟨i0, hi0, hz0, hz1, hz2⟩ := info_parts info_ritem
  clear T
  go_enter Tryz.func54, Tryz.ntmps54
  go_wp2_with fail
  go_loopw [3, 4] (fun out i wr => ∃ (j : Nat) (A' : Option Addr) (c' : Nat) (s : List It), j ≤ n ∧ i = .int .i64 j ∧ out = .slice A' j c' ∧ (j = 0 → A' = none ∧ c' = 0) ∧ Hid (Told (l.take j) s) ∧ RIts wr w.heap.size A' j c' s ∧ Below w.heap.size w wr) (fun _ i _ => n - (intOf i).toNat)
  case atStart => exact ⟨0, none, 0, [], Nat.zero_le _, rfl, rfl, fun _ => ⟨rfl, rfl⟩, Lib.hid Told.nil, RIts.nil, Below.refl _ _⟩
  case round =>
    obtain ⟨j, A', c', s, hj, rfl, rfl, hnil, HTD, hI, hB⟩ := hrel
    generalize hwo : wr = wo at *
    clear hwo
    have cg := (hB.cell (p := ⟨g, 0, none⟩) hlt).trans c0
    have hg2 : g < wo.heap.size := Nat.lt_of_lt_of_le hlt hB.size
    by_cases hjn : j < n
    · obtain ⟨r, rfl, hr0, hr1, hrc, hcell⟩ := HIT.out.row (by omega)
      obtain ⟨x0, x1, x2⟩ := hcell j hjn
      have e0 := (hB.cell (p := ⟨r, j * 3, none⟩) hr1).trans x0
      have e1 := (hB.cell (p := ⟨r, j * 3 + 1, none⟩) hr1).trans x1
      have e2 := (hB.cell (p := ⟨r, j * 3 + 2, none⟩) hr1).trans x2
      have hr2 : r < wo.heap.size := Nat.lt_of_lt_of_le hr1 hB.size
      have HTS := Lib.hid (take_snocI l j (by omega))
      clear hcell x0 x1 x2
      generalize l.getD j default = X at *
      have hj1 : (j : Int) < n := by omega
      have hsl := hI.len
      by_cases hj0 : j = 0
      · subst hj0
        obtain ⟨rfl, rfl⟩ := hnil rfl
        have hs0 : s = [] := List.eq_nil_of_length_eq_zero hsl
        subst hs0
        clear hnil hsl
        go_wp2_with fail
        go_loopw [5] (fun at_ w6 => at_ = .int .i64 0 ∧ w6 = wo) (fun at_ _ => 0)
        case atStart => exact ⟨rfl, rfl⟩
        case round =>
          obtain ⟨rfl, rfl⟩ := hrel
          go_upto_region 6 with fail
          go_quiet (fail)
          have hb8 : Below wr.heap.size wr (wr.drewN nq) := bdrewN (Below.refl _ _) nq
          have x0 := (hb8.cell (p := ⟨r, 0 * 3, none⟩) hr2).trans e0
          have x1 := (hb8.cell (p := ⟨r, 0 * 3 + 1, none⟩) hr2).trans e1
          have x2 := (hb8.cell (p := ⟨r, 0 * 3 + 2, none⟩) hr2).trans e2
          have cg8 := (hb8.cell (p := ⟨g, 0, none⟩) hg2).trans cg
          have lg8 : g < (wr.drewN nq).heap.size := hg2
          have lr8 : r < (wr.drewN nq).heap.size := hr2
          have hw8 : w.heap.size ≤ (wr.drewN nq).heap.size := hB.size
          have hbb := bdrewN hB nq
          clear hb8 e0 e1 e2 cg
          generalize wr.drewN nq = w8 at *
          go_upto_region 10 with (at_builtin; refine wpList_app0 rfl _ _ 52 rfl 109 i0 Tryz.underlying52 hi0 w.heap.size 3 none 0 0 [] (World.ownsRow_nil _ _ _ 3) rfl 0 rfl ?_)
          go_upto_region 11 with (at_builtin; refine wpList_append_own_at _ rfl _ _ 52 rfl w.heap.size 109 i0 _ 3 32 Tryz.underlying52 hi0 hz0 hz1 hz2 rfl (by omega) (.slice none 0 0) 0 [] rfl (World.ownsRow_nil _ _ _ 3) ⟨w8.heap.size, 0, none⟩ 1 1 (encI X) rfl rfl (news_item (Blk.new w8 _ _)) (by intro u hu; simp only [encI, List.mem_cons, List.not_mem_nil, or_false] at hu; rcases hu with rfl | rfl | rfl <;> rfl) (by simp only [maxLen]; omega) (by omega) (by simp; omega) ?_; intro v' w10 hown10 hG10 hnil10 hat10; rw [Nat.zero_add, List.nil_append] at hown10; obtain ⟨A10, c10, rfl⟩ := own_form hown10)
          go_wp2_with (at_builtin; refine wpList_app0 rfl _ _ 52 rfl 109 i0 Tryz.underlying52 hi0 w.heap.size 3 A10 1 c10 (encI X) hown10 rfl 0 rfl ?_)
          refine ⟨⟨1, A10, c10, [X], by omega, by go_num, rfl, fun h => by omega, Lib.hid (by have h := HTS.out; simp only [Nat.zero_add] at h; rw [h]; exact insT_told HTD.out X), ⟨hown10⟩, ?_⟩, by simp [intOf]; omega⟩
          exact bgrown (balloc hbb _) hG10 (fun k hk => by simp [Value.ownBlock] at hk)
      · obtain ⟨q, rfl, hq0, hq1, hqc, hqcell⟩ := hI.row (by omega)
        clear hnil hj0
        go_wp2_with fail
        go_loopw [5] (fun at_ w6 => ∃ a2 : Nat, a2 ≤ j ∧ at_ = .int .i64 a2 ∧ Hid (∀ k, k < a2 → ahead (s.getD k default) X = true) ∧ Below wo.heap.size wo w6) (fun at_ _ => j - (intOf at_).toNat)
        case atStart => exact ⟨0, Nat.zero_le _, rfl, Lib.hid (fun k h => by omega), Below.refl _ _⟩
        case round =>
          obtain ⟨a2, ha2, rfl, HA, hb6⟩ := hrel
          have lr6 : r < wr.heap.size := Nat.lt_of_lt_of_le hr2 hb6.size
          have lq6 : q < wr.heap.size := Nat.lt_of_lt_of_le hq1 hb6.size
          have lg6 : g < wr.heap.size := Nat.lt_of_lt_of_le hg2 hb6.size
          have cg6 := (hb6.cell (p := ⟨g, 0, none⟩) hg2).trans cg
          have x0 := (hb6.cell (p := ⟨r, j * 3, none⟩) hr2).trans e0
          have x1 := (hb6.cell (p := ⟨r, j * 3 + 1, none⟩) hr2).trans e1
          have x2 := (hb6.cell (p := ⟨r, j * 3 + 2, none⟩) hr2).trans e2
          have hrest : Hid (∀ (hins : insT s X = s.take a2 ++ X :: s.drop a2), True) := Lib.hid (fun _ => trivial)
          by_cases ha : a2 < j
          · obtain ⟨y0, y1, y2⟩ := hqcell a2 ha
            have p0 := (hb6.cell (p := ⟨q, a2 * 3, none⟩) hq1).trans y0
            have p1 := (hb6.cell (p := ⟨q, a2 * 3 + 1, none⟩) hq1).trans y1
            have p2 := (hb6.cell (p := ⟨q, a2 * 3 + 2, none⟩) hq1).trans y2
            have hbc := before_call (s.getD a2 default) X
            have HAA : Hid (ahead (s.getD a2 default) X = true → ∀ k, k < a2 + 1 → ahead (s.getD k default) X = true) := Lib.hid (fun h k hk => by
              rcases Nat.lt_or_ge k a2 with h1 | h1
              · exact HA.out k h1
              · have e : k = a2 := by omega
                rw [e]; exact h)
            have HIN : Hid (ahead (s.getD a2 default) X = false → insT s X = s.take a2 ++ X :: s.drop a2) := Lib.hid (fun h => insT_at s X a2 (by omega) HA.out (.inr h))
            generalize s.getD a2 default = P at *
            generalize ahead P X = bb at *
            have hcmp := Lib.hid hbc
            have a1 : (a2 : Int) < j := by omega
            clear hbc y0 y1 y2
            go_upto_region 6 with fail
            go_still_tail 16, (by kernel_rfl)
            change wpList _ _ _ _ _ wr.drew
            have hb7 := bdrew hb6
            generalize wr.drew = w7 at *
            cases bb
            · have hins := HIN.out rfl
              have HINS := Lib.hid hins
              clear hins
              go_upto_region 9 with (go_at_call 76; refine (hcmp.out _).mono ?_; rintro e w8 ⟨rfl, hL⟩; have hb8 := bstep hL.below hb7; clear hL)
              clear hb6 hb7 x0 x1 x2 p0 p1 p2 cg6 lr6 lq6 lg6
              have I8 := hI.step hb8
              have f8 : ∀ i u, (flat (s.take a2))[i]? = some u → w8.cell? ((⟨q, 0, none⟩ : Addr).add i) = some u := fun i u hu => by
                refine I8.own.cells (g := q) rfl i u ?_
                have hfs : flat s = flat (s.take a2) ++ flat (s.drop a2) := by rw [← flat_append, List.take_append_drop]
                rw [hfs, List.getElem?_append_left (by rcases Nat.lt_or_ge i (flat (s.take a2)).length with h | h; exact h; rw [List.getElem?_eq_none h] at hu; cases hu)]
                exact hu
              have hw8 : w.heap.size ≤ w8.heap.size := Nat.le_trans hB.size hb8.size
              have hac : (a2 : Int) ≤ c' := by omega
              go_upto_region 10 with (at_builtin; refine wpList_append_own_at _ rfl _ _ 52 rfl w.heap.size 109 i0 _ 3 32 Tryz.underlying52 hi0 hz0 hz1 hz2 rfl (by omega) (.slice none 0 0) 0 [] rfl (World.ownsRow_nil _ _ _ 3) ⟨q, 0, none⟩ a2 c' (flat (s.take a2)) rfl (by rw [flat_len, List.length_take]; omega) f8 (flat_one _) (by simp only [maxLen]; omega) (by omega) hw8 ?_; intro v' w9 hown9 hG9 hnil9 hat9; rw [Nat.zero_add, List.nil_append] at hown9; obtain ⟨A9, c9, rfl⟩ := own_form hown9)
              have b9 : Below w8.heap.size w8 w9 := below_of_only (by simpa [Value.ownBlock] using hG9)
              have I9 := I8.step b9
              have hb9 := bstep b9 hb8
              have x0 := (hb9.cell (p := ⟨r, j * 3, none⟩) hr2).trans e0
              have x1 := (hb9.cell (p := ⟨r, j * 3 + 1, none⟩) hr2).trans e1
              have x2 := (hb9.cell (p := ⟨r, j * 3 + 2, none⟩) hr2).trans e2
              have cg9 := (hb9.cell (p := ⟨g, 0, none⟩) hg2).trans cg
              have lg9 : g < w9.heap.size := Nat.lt_of_lt_of_le hg2 hb9.size
              have lr9 : r < w9.heap.size := Nat.lt_of_lt_of_le hr2 hb9.size
              have hw9 : w.heap.size ≤ w9.heap.size := Nat.le_trans hw8 b9.size
              have hq8 : q < w8.heap.size := Nat.lt_of_lt_of_le hq1 hb8.size
              have hne9 : Value.ownBlock (.slice (some ⟨q, 0, none⟩) j c') ≠ Value.ownBlock (.slice A9 a2 c9) := by
                rcases hat9 with h | h
                · rw [h]; simp [Value.ownBlock]
                · rw [h]; simp [Value.ownBlock]; omega
              have HN9 := Lib.hid hne9
              clear hnil9 hat9 hne9 f8 hac
              go_upto_region 11 with (at_builtin; refine wpList_append_own_at _ rfl _ _ 52 rfl w.heap.size 109 i0 _ 3 32 Tryz.underlying52 hi0 hz0 hz1 hz2 rfl (by omega) (.slice A9 a2 c9) a2 (flat (s.take a2)) rfl (hown9.alloc _) ⟨w9.heap.size, 0, none⟩ 1 1 (encI X) rfl rfl (news_item (Blk.new w9 _ _)) (by intro u hu; simp only [encI, List.mem_cons, List.not_mem_nil, or_false] at hu; rcases hu with rfl | rfl | rfl <;> rfl) (by simp only [maxLen]; omega) (by omega) (by simp; omega) ?_; intro v' w10 hown10 hG10 hnil10 hat10; obtain ⟨A10, c10, rfl⟩ := own_form hown10)
              have I10 : RIts w10 w.heap.size (some ⟨q, 0, none⟩) j c' s := ⟨(I9.step (balloc (Below.refl _ _) _)).own.kept hG10 (.inr HN9.out)⟩
              have f10 : ∀ i u, (flat (s.drop a2))[i]? = some u → w10.cell? ((⟨q, a2 * 3, none⟩ : Addr).add i) = some u := fun i u hu => by
                have hfs : flat s = flat (s.take a2) ++ flat (s.drop a2) := by rw [← flat_append, List.take_append_drop]
                have hlen : (flat (s.take a2)).length = a2 * 3 := by rw [flat_len, List.length_take]; omega
                have h := I10.own.cells (g := q) rfl (a2 * 3 + i) u (by rw [hfs, List.getElem?_append_right (by omega), hlen, Nat.add_sub_cancel_left]; exact hu)
                rw [addr_add] at h ⊢
                rwa [Nat.zero_add] at h
              have hw10 : w.heap.size ≤ w10.heap.size := by have h := hG10.size; simp at h; omega
              have hbb10 : Below w.heap.size w w10 := bgrown (balloc (bstep hb9 hB) _) hG10 (fun k hk => (hown9.lt k hk).1)
              have k1 : ¬ a2 = c' := by omega
              have k2 : (a2 : Int) ≤ j := by omega
              have k3 : (j : Int) - a2 = ((j - a2 : Nat) : Int) := by omega
              have k4 : (c' : Int) - a2 = ((c' - a2 : Nat) : Int) := by omega
              go_wp2_with (at_builtin; (refine wpList_append_own_at _ rfl _ _ 52 rfl w.heap.size 109 i0 _ 3 32 Tryz.underlying52 hi0 hz0 hz1 hz2 rfl (by omega) (.slice A10 (a2 + 1) c10) (a2 + 1) (flat (s.take a2) ++ encI X) rfl hown10 ⟨q, a2 * 3, none⟩ (j - a2) (c' - a2) (flat (s.drop a2)) rfl (by rw [flat_len, List.length_drop]; omega) f10 (flat_one _) (by simp only [maxLen]; omega) (by omega) hw10 ?_; intro v' w11 hown11 hG11 hnil11 hat11; obtain ⟨A11, c11, rfl⟩ := own_form hown11))
              have hjj : a2 + 1 + (j - a2) = j + 1 := by omega
              rw [hjj] at hown11
              refine ⟨⟨j + 1, A11, c11, insT s X, by omega, by go_num, (by first | (congr 1; omega) | (congr 1)), fun h => by omega, Lib.hid (by rw [HTS.out]; exact insT_told HTD.out X), ⟨?_⟩, ?_⟩, by simp [intOf]; omega⟩
              · rw [HINS.out, flat_append]
                have e : flat (X :: s.drop a2) = encI X ++ flat (s.drop a2) := rfl
                rw [e, ← List.append_assoc]
                exact hown11
              · exact bgrown hbb10 hG11 (fun k hk => (hown10.lt k hk).1)
            · go_wp2_with (first | (go_at_call 76; refine (hcmp.out _).mono ?_; rintro e w8 ⟨rfl, hL⟩; have hb8 := bstep hL.below hb7; clear hL))
              exact ⟨⟨a2 + 1, by omega, by go_num, Lib.hid (HAA.out (by first | trivial | rfl)), hb8⟩, by simp [intOf]; omega⟩
          · have hins := insT_at s X a2 (by omega) HA.out (.inl (by omega))
            have HINS := Lib.hid hins
            have a1 : ¬ (a2 : Int) < j := by omega
            clear hins
            go_upto_region 6 with fail
            go_quiet (fail)
            have hb8 := bdrewN hb6 nq
            generalize wr.drewN nq = w8 at *
            clear hb6 x0 x1 x2 cg6 lr6 lq6 lg6
            go_upto_region 9 with fail
            have I8 := hI.step hb8
            have f8 : ∀ i u, (flat (s.take a2))[i]? = some u → w8.cell? ((⟨q, 0, none⟩ : Addr).add i) = some u := fun i u hu => by
              refine I8.own.cells (g := q) rfl i u ?_
              have hfs : flat s = flat (s.take a2) ++ flat (s.drop a2) := by rw [← flat_append, List.take_append_drop]
              rw [hfs, List.getElem?_append_left (by rcases Nat.lt_or_ge i (flat (s.take a2)).length with h | h; exact h; rw [List.getElem?_eq_none h] at hu; cases hu)]
              exact hu
            have hw8 : w.heap.size ≤ w8.heap.size := Nat.le_trans hB.size hb8.size
            have hac : (a2 : Int) ≤ c' := by omega
            go_upto_region 10 with (at_builtin; refine wpList_append_own_at _ rfl _ _ 52 rfl w.heap.size 109 i0 _ 3 32 Tryz.underlying52 hi0 hz0 hz1 hz2 rfl (by omega) (.slice none 0 0) 0 [] rfl (World.ownsRow_nil _ _ _ 3) ⟨q, 0, none⟩ a2 c' (flat (s.take a2)) rfl (by rw [flat_len, List.length_take]; omega) f8 (flat_one _) (by simp only [maxLen]; omega) (by omega) hw8 ?_; intro v' w9 hown9 hG9 hnil9 hat9; rw [Nat.zero_add, List.nil_append] at hown9; obtain ⟨A9, c9, rfl⟩ := own_form hown9)
            have b9 : Below w8.heap.size w8 w9 := below_of_only (by simpa [Value.ownBlock] using hG9)
            have I9 := I8.step b9
            have hb9 := bstep b9 hb8
            have x0 := (hb9.cell (p := ⟨r, j * 3, none⟩) hr2).trans e0
            have x1 := (hb9.cell (p := ⟨r, j * 3 + 1, none⟩) hr2).trans e1
            have x2 := (hb9.cell (p := ⟨r, j * 3 + 2, none⟩) hr2).trans e2
            have cg9 := (hb9.cell (p := ⟨g, 0, none⟩) hg2).trans cg
            have lg9 : g < w9.heap.size := Nat.lt_of_lt_of_le hg2 hb9.size
            have lr9 : r < w9.heap.size := Nat.lt_of_lt_of_le hr2 hb9.size
            have hw9 : w.heap.size ≤ w9.heap.size := Nat.le_trans hw8 b9.size
            have hq8 : q < w8.heap.size := Nat.lt_of_lt_of_le hq1 hb8.size
            have hne9 : Value.ownBlock (.slice (some ⟨q, 0, none⟩) j c') ≠ Value.ownBlock (.slice A9 a2 c9) := by
              rcases hat9 with h | h
              · rw [h]; simp [Value.ownBlock]
              · rw [h]; simp [Value.ownBlock]; omega
            have HN9 := Lib.hid hne9
            clear hnil9 hat9 hne9 f8 hac
            go_upto_region 11 with (at_builtin; refine wpList_append_own_at _ rfl _ _ 52 rfl w.heap.size 109 i0 _ 3 32 Tryz.underlying52 hi0 hz0 hz1 hz2 rfl (by omega) (.slice A9 a2 c9) a2 (flat (s.take a2)) rfl (hown9.alloc _) ⟨w9.heap.size, 0, none⟩ 1 1 (encI X) rfl rfl (news_item (Blk.new w9 _ _)) (by intro u hu; simp only [encI, List.mem_cons, List.not_mem_nil, or_false] at hu; rcases hu with rfl | rfl | rfl <;> rfl) (by simp only [maxLen]; omega) (by omega) (by simp; omega) ?_; intro v' w10 hown10 hG10 hnil10 hat10; obtain ⟨A10, c10, rfl⟩ := own_form hown10)
            have I10 : RIts w10 w.heap.size (some ⟨q, 0, none⟩) j c' s := ⟨(I9.step (balloc (Below.refl _ _) _)).own.kept hG10 (.inr HN9.out)⟩
            by_cases hcap : a2 = c'
            · have hw10 : w.heap.size ≤ w10.heap.size := by have h := hG10.size; simp at h; omega
              have hbb10 : Below w.heap.size w w10 := bgrown (balloc (bstep hb9 hB) _) hG10 (fun k hk => (hown9.lt k hk).1)
              have k2 : (a2 : Int) ≤ j := by omega
              have k3 : (j : Int) - a2 = 0 := by omega
              have k5 : j - a2 = 0 := by omega
              have k4 : (c' : Int) - a2 = ((c' - a2 : Nat) : Int) := by omega
              go_wp2_with (at_builtin; (refine wpList_append_own_at _ rfl _ _ 52 rfl w.heap.size 109 i0 _ 3 32 Tryz.underlying52 hi0 hz0 hz1 hz2 rfl (by omega) (.slice A10 (a2 + 1) c10) (a2 + 1) (flat (s.take a2) ++ encI X) rfl hown10 ⟨q, 0, none⟩ 0 0 [] rfl rfl (fun i u hu => by cases hu) (fun u hu => by cases hu) (by simp only [maxLen]; omega) (by omega) hw10 ?_; intro v' w11 hown11 hG11 hnil11 hat11; obtain ⟨A11, c11, rfl⟩ := own_form hown11))
              have hjj : a2 + 1 + 0 = j + 1 := by omega
              rw [hjj] at hown11
              refine ⟨⟨j + 1, A11, c11, insT s X, by omega, by go_num, (by first | (congr 1; omega) | (congr 1)), fun h => by omega, Lib.hid (by rw [HTS.out]; exact insT_told HTD.out X), ⟨?_⟩, ?_⟩, by simp [intOf]; omega⟩
              · have hdr : s.drop a2 = [] := List.drop_eq_nil_of_le (by omega)
                rw [HINS.out, hdr, flat_append]
                have e : flat [X] = encI X ++ [] := rfl
                rw [e, ← List.append_assoc]
                exact hown11
              · exact bgrown hbb10 hG11 (fun k hk => (hown10.lt k hk).1)
            · have hw10 : w.heap.size ≤ w10.heap.size := by have h := hG10.size; simp at h; omega
              have hbb10 : Below w.heap.size w w10 := bgrown (balloc (bstep hb9 hB) _) hG10 (fun k hk => (hown9.lt k hk).1)
              have k2 : (a2 : Int) ≤ j := by omega
              have k3 : (j : Int) - a2 = 0 := by omega
              have k5 : j - a2 = 0 := by omega
              have k4 : (c' : Int) - a2 = ((c' - a2 : Nat) : Int) := by omega
              go_wp2_with (at_builtin; (refine wpList_append_own_at _ rfl _ _ 52 rfl w.heap.size 109 i0 _ 3 32 Tryz.underlying52 hi0 hz0 hz1 hz2 rfl (by omega) (.slice A10 (a2 + 1) c10) (a2 + 1) (flat (s.take a2) ++ encI X) rfl hown10 ⟨q, a2 * 3, none⟩ 0 (c' - a2) [] rfl rfl (fun i u hu => by cases hu) (fun u hu => by cases hu) (by simp only [maxLen]; omega) (by omega) hw10 ?_; intro v' w11 hown11 hG11 hnil11 hat11; obtain ⟨A11, c11, rfl⟩ := own_form hown11))
              have hjj : a2 + 1 + 0 = j + 1 := by omega
              rw [hjj] at hown11
              refine ⟨⟨j + 1, A11, c11, insT s X, by omega, by go_num, (by first | (congr 1; omega) | (congr 1)), fun h => by omega, Lib.hid (by rw [HTS.out]; exact insT_told HTD.out X), ⟨?_⟩, ?_⟩, by simp [intOf]; omega⟩
              · have hdr : s.drop a2 = [] := List.drop_eq_nil_of_le (by omega)
                rw [HINS.out, hdr, flat_append]
                have e : flat [X] = encI X ++ [] := rfl
                rw [e, ← List.append_assoc]
                exact hown11
              · exact bgrown hbb10 hG11 (fun k hk => (hown10.lt k hk).1)
    · have e : j = n := by omega
      have htk : l.take j = l := List.take_of_length_le (by omega)
      have HTD2 : Hid (Told l s) := by rw [htk] at HTD; exact HTD
      have j1 : ¬ (j : Int) < n := by omega
      have hje : Hid (j = n) := Lib.hid e
      clear htk e HTD
      go_wp2_with fail
      go_ret
      exact ⟨A', c', by rw [← hje.out]; rfl, s, HTD2.out, by rw [← hje.out]; exact hI, hB⟩
end Go.Proofs.YtapiehddcdnadaaGreatDoor
namespace Go.Proofs.YtapiehddcdnadaaGreatDoor
open Go.RowKit
set_option linter.unusedVariables false
set_option linter.unusedSimpArgs false

/-- Every block of S is of the kind P. -/
def Kinds (w : World) (S : Nat → Prop) (P : TypeId → Prop) : Prop := ∀ q, S q → ∃ cs t, w.heap[q]? = some (.cells cs t (0, 0)) ∧ P t
theorem own_kind {w : World} {base : Nat} {e : TypeId} {v : Value} {n : Nat} {xs : List Value} (h : w.ownsRow base e 3 v n xs) {q : Nat} (hq : v.ownBlock = some q) : ∃ cs, w.heap[q]? = some (.cells cs e (0, 0)) := by
  rcases h.2 with ⟨rfl, _⟩ | ⟨r, cap, cur, rfl, _, hg, _⟩
  · simp [Value.ownBlock] at hq
  · simp [Value.ownBlock] at hq
    subst hq
    exact ⟨cur, hg⟩
theorem own_keep {w w' : World} {base : Nat} {e : TypeId} {v : Value} {n : Nat} {xs : List Value} {S : Nat → Prop} (hO : Only w w' S) (hK : Kinds w S (· ≠ e)) (h : w.ownsRow base e 3 v n xs) : w'.ownsRow base e 3 v n xs := by
  refine ⟨h.1, ?_⟩
  rcases h.2 with h0 | ⟨q, cap, cur, hv, hq0, hq, rest⟩
  · exact .inl h0
  · refine .inr ⟨q, cap, cur, hv, hq0, ?_, rest⟩
    rw [hO.block q (by rcases Nat.lt_or_ge q w.heap.size with h3 | h3; exact h3; rw [Array.getElem?_eq_none h3] at hq; cases hq) (fun hS => by
      obtain ⟨cs, t, h1, h2⟩ := hK q hS
      rw [hq] at h1
      injection h1 with h1
      injection h1 with _ h3
      exact h2 h3.symm)]
    exact hq
theorem blk_keep {w w' : World} {g : Nat} {t : TypeId} {cs : Array Value} {S : Nat → Prop} (hO : Only w w' S) (hK : Kinds w S (· ≠ t)) (h : Blk w g t cs) : Blk w' g t cs := hO.blk h (fun hS => by
  obtain ⟨c2, t2, h1, h2⟩ := hK g hS
  unfold Blk at h
  rw [h] at h1
  injection h1 with h1
  injection h1 with _ h3
  exact h2 h3.symm)
theorem Tp.kinds {w : World} {base g room seen : Nat} {A : Option Addr} {n c : Nat} {l : List It} (T : Tp w base g room seen A n c l) : Kinds w (mine g (.slice A n c)) (fun t => t = 122 ∨ t = 75) := by
  rintro q (rfl | h)
  · exact ⟨_, _, T.blk, .inl rfl⟩
  · obtain ⟨cs, hc⟩ := own_kind T.its.own h.symm
    exact ⟨cs, _, hc, .inr rfl⟩
theorem Rp.kinds {w : World} {base g room seen : Nat} {A : Option Addr} {n c : Nat} {l : List It} (T : Rp w base g room seen A n c l) : Kinds w (mine g (.slice A n c)) (fun t => t = 54 ∨ t = 109) := by
  rintro q (rfl | h)
  · exact ⟨_, _, T.blk, .inl rfl⟩
  · obtain ⟨cs, hc⟩ := own_kind T.its.own h.symm
    exact ⟨cs, _, hc, .inr rfl⟩
theorem Kinds.mono {w : World} {S : Nat → Prop} {P P' : TypeId → Prop} (h : Kinds w S P) (hp : ∀ t, P t → P' t) : Kinds w S P' := fun q hq => by
  obtain ⟨cs, t, h1, h2⟩ := h q hq
  exact ⟨cs, t, h1, hp t h2⟩
theorem keepR {w w' : World} {base g h room seen s2 : Nat} {A : Option Addr} {n c : Nat} {l : List It} {A2 : Option Addr} {n2 c2 : Nat} {l2 : List It} (T : Tp w base g room seen A n c l) (R : Rp w base h room s2 A2 n2 c2 l2) (hO : Only w w' (mine g (.slice A n c))) : Rp w' base h room s2 A2 n2 c2 l2 :=
  ⟨blk_keep hO (T.kinds.mono (by rintro t (rfl | rfl) <;> decide)) R.blk, ⟨own_keep hO (T.kinds.mono (by rintro t (rfl | rfl) <;> decide)) R.its.own⟩, R.g0, R.rm, R.ln, R.sn, R.bd⟩
theorem keepT {w w' : World} {base g h room seen s2 : Nat} {A : Option Addr} {n c : Nat} {l : List It} {A2 : Option Addr} {n2 c2 : Nat} {l2 : List It} (T : Tp w base g room seen A n c l) (R : Rp w base h room s2 A2 n2 c2 l2) (hO : Only w w' (mine h (.slice A2 n2 c2))) : Tp w' base g room seen A n c l :=
  ⟨blk_keep hO (R.kinds.mono (by rintro t (rfl | rfl) <;> decide)) T.blk, ⟨own_keep hO (R.kinds.mono (by rintro t (rfl | rfl) <;> decide)) T.its.own⟩, T.g0, T.rm, T.ln, T.sn, T.bd⟩

/-- Both at once: the program's at g, the reference's at h. -/
def PR (W : World) (base g h room s1 s2 : Nat) (L1 L2 : List It) (w : World) : Prop := ∃ A n c A2 n2 c2, Tp w base g room s1 A n c L1 ∧ Rp w base h room s2 A2 n2 c2 L2 ∧ Inv room s1 L1 ∧ Inv room s2 L2 ∧ Below base W w ∧ base ≤ W.heap.size
section
variable {W w w' : World} {base g h room s1 s2 : Nat} {L1 L2 : List It}
theorem PR.tm (H : PR W base g h room s1 s2 L1 L2 w) : TM W base g room s1 L1 w := by
  obtain ⟨A, n, c, A2, n2, c2, T, R, I1, I2, hB, hb⟩ := H
  exact ⟨A, n, c, T, I1, hB, hb⟩
theorem PR.step (H : PR W base g h room s1 s2 L1 L2 w) (hb : Below w.heap.size w w') : PR W base g h room s1 s2 L1 L2 w' := by
  have hbs := H.tm.bs
  obtain ⟨A, n, c, A2, n2, c2, T, R, I1, I2, hB, hW⟩ := H
  exact ⟨A, n, c, A2, n2, c2, T.step hb, R.step hb, I1, I2, hB.trans (hb.mono hbs), hW⟩
theorem pr_add1 (nm : ByteArray) (by_ : Nat) (hby : by_ < 18446744073709551616) (hnm : nm.size ≤ 140737488355328) (H : PR W base g h room s1 s2 L1 L2 w) :
    Calls Tryz.prog 61 #[.pointer (some ⟨g, 0, none⟩), .string nm, .int .u64 by_] w fun e w' => e = .returned (.int .i64 (addE s1 nm by_)) ∧ PR W base g h room (stepS s1 nm by_) s2 (stepT room s1 L1 nm by_) L2 w' := by
  have hbs := H.tm.bs
  obtain ⟨A, n, c, A2, n2, c2, T, R, I1, I2, hB, hW⟩ := H
  refine (add_call base g room s1 A n c L1 nm by_ hby hnm w T I1).mono ?_
  rintro e w1 ⟨rfl, A', n', c', T', hO, hN⟩
  refine ⟨rfl, A', n', c', A2, n2, c2, T', keepR T R hO, I1.step T.rm.1 nm by_, I2, hO.below hB hbs ?_, hW⟩
  rintro i hi (rfl | h2)
  · have := T.g0; omega
  · have := (T.its.own.lt i h2.symm).1; omega
theorem pr_add2 (nm : ByteArray) (by_ : Nat) (hby : by_ < 18446744073709551616) (hnm : nm.size ≤ 140737488355328) (H : PR W base g h room s1 s2 L1 L2 w) :
    Calls Tryz.prog 65 #[.pointer (some ⟨h, 0, none⟩), .string nm, .int .u64 by_] w fun e w' => e = .returned (.int .i64 (addE s2 nm by_)) ∧ PR W base g h room s1 (stepS s2 nm by_) L1 (stepT room s2 L2 nm by_) w' := by
  have hbs := H.tm.bs
  obtain ⟨A, n, c, A2, n2, c2, T, R, I1, I2, hB, hW⟩ := H
  refine (radd_call base h room s2 A2 n2 c2 L2 nm by_ hby hnm w R I2).mono ?_
  rintro e w1 ⟨rfl, A', n', c', R', hO, hN⟩
  refine ⟨rfl, A, n, c, A', n', c', keepT T R hO, R', I1, I2.step R.rm.1 nm by_, hO.below hB hbs ?_, hW⟩
  rintro i hi (rfl | h2)
  · have := R.g0; omega
  · have := (R.its.own.lt i h2.symm).1; omega
theorem pr_seen (H : PR W base g h room s1 s2 L1 L2 w) : w.cell? ⟨h, 2, none⟩ = some (.int .u64 s2) ∧ h < w.heap.size := by
  obtain ⟨A, n, c, A2, n2, c2, T, R, I1, I2, hB, hW⟩ := H
  exact ⟨R.blk.cellAt 2 rfl, R.blk.lt⟩
end
end Go.Proofs.YtapiehddcdnadaaGreatDoor
namespace Go.Proofs.YtapiehddcdnadaaGreatDoor
open Go.RowKit
set_option linter.unusedVariables false
set_option linter.unusedSimpArgs false

theorem addE_over (seen : Nat) (nm : ByteArray) (b : Nat) (h : 64 < nm.size) : addE seen nm b = 1 := by unfold addE; rw [if_pos (.inl h)]
theorem add_long (p : Value) (nm : ByteArray) (by_ : Nat) (w : World) (h : 64 < nm.size) : Calls Tryz.prog 61 #[p, .string nm, .int .u64 by_] w fun e w' => e = .returned (.int .i64 1) ∧ w' = w := by
  have h1 : (64 : Int) < nm.size := by omega
  go_enter Tryz.func61, Tryz.ntmps61
  go_wp2_with fail
  go_ret
  exact ⟨rfl, rfl⟩
theorem radd_long (p : Value) (nm : ByteArray) (by_ : Nat) (w : World) (h : 64 < nm.size) : Calls Tryz.prog 65 #[p, .string nm, .int .u64 by_] w fun e w' => e = .returned (.int .i64 1) ∧ w' = w := by
  have h1 : (64 : Int) < nm.size := by omega
  go_enter Tryz.func65, Tryz.ntmps65
  go_wp2_with fail
  go_ret
  exact ⟨rfl, rfl⟩
section
variable {W w w' : World} {base g h room s1 s2 : Nat} {L1 L2 : List It}
theorem pr_any1 (nm : ByteArray) (by_ : Nat) (hby : by_ < 18446744073709551616) (H : PR W base g h room s1 s2 L1 L2 w) :
    Calls Tryz.prog 61 #[.pointer (some ⟨g, 0, none⟩), .string nm, .int .u64 by_] w fun e w' => e = .returned (.int .i64 (addE s1 nm by_)) ∧ PR W base g h room (stepS s1 nm by_) s2 (stepT room s1 L1 nm by_) L2 w' := by
  by_cases hl : 64 < nm.size
  · have he := addE_over s1 nm by_ hl
    have e1 : stepS s1 nm by_ = s1 := if_neg (by omega)
    have e2 : stepT room s1 L1 nm by_ = L1 := if_neg (by omega)
    rw [he, e1, e2]
    refine (add_long _ nm by_ w hl).mono ?_
    rintro e w1 ⟨rfl, rfl⟩
    exact ⟨rfl, H⟩
  · exact pr_add1 nm by_ hby (by omega) H
theorem pr_any2 (nm : ByteArray) (by_ : Nat) (hby : by_ < 18446744073709551616) (H : PR W base g h room s1 s2 L1 L2 w) :
    Calls Tryz.prog 65 #[.pointer (some ⟨h, 0, none⟩), .string nm, .int .u64 by_] w fun e w' => e = .returned (.int .i64 (addE s2 nm by_)) ∧ PR W base g h room s1 (stepS s2 nm by_) L1 (stepT room s2 L2 nm by_) w' := by
  by_cases hl : 64 < nm.size
  · have he := addE_over s2 nm by_ hl
    have e1 : stepS s2 nm by_ = s2 := if_neg (by omega)
    have e2 : stepT room s2 L2 nm by_ = L2 := if_neg (by omega)
    rw [he, e1, e2]
    refine (radd_long _ nm by_ w hl).mono ?_
    rintro e w1 ⟨rfl, rfl⟩
    exact ⟨rfl, H⟩
  · exact pr_add2 nm by_ hby (by omega) H
end
end Go.Proofs.YtapiehddcdnadaaGreatDoor
namespace Go.Proofs.YtapiehddcdnadaaGreatDoor
open Go.RowKit
set_option linter.unusedVariables false
set_option linter.unusedSimpArgs false

theorem BackInv.step {k s : Nat} {L : List It} (B : BackInv k s L) (h0 : 0 < k) (nm : ByteArray) (n : Nat) : BackInv k (stepS s nm n) (stepT k s L nm n) := by
  unfold stepS stepT
  by_cases he : addE s nm n = 0
  · rw [if_pos he, if_pos he]
    obtain ⟨h1, h2, h3⟩ := addE_zero he
    exact B.add h0 nm h1 n (by omega)
  · rw [if_neg he, if_neg he]
    exact B
theorem BackInv.right {k s : Nat} {L t : List It} (B : BackInv k s L) (hs : s ≤ 4611686018427387904) (hT : Told L t) : RightP k s t := by
  obtain ⟨real, O⟩ := B.off
  exact right_of_told O hs B.st B.sz hT
end Go.Proofs.YtapiehddcdnadaaGreatDoor
