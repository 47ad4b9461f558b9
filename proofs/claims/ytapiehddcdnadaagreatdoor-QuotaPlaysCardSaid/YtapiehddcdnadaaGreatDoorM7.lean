/- The top in memory. place and Add. place where the name is not there. Deeds that came in. -/
import Derived.Test.YtapiehddcdnadaaGreatDoorTopP
import Derived.Test.YtapiehddcdnadaaGreatDoorProg
import Derived.Test.YtapiehddcdnadaaGreatDoorM1
import Derived.Sort.Walk0
import Derived.WalkMore
import Derived.Deep.LoopGhost
namespace Go.Proofs.YtapiehddcdnadaaGreatDoor
open Go.RowKit
set_option linter.unusedVariables false
set_option linter.unusedSimpArgs false

/-- An item's cells. -/
def encI (x : It) : List Value := [.string x.name, .int .u64 x.many, .int .u64 x.over]
def flat (l : List It) : List Value := l.flatMap encI
theorem flat_len (l : List It) : (flat l).length = l.length * 3 := by
  induction l with
  | nil => rfl
  | cons x l ih => simp only [flat, List.flatMap_cons, List.length_append] at *; rw [ih]; simp [encI]; omega
theorem flat_get (l : List It) (i j : Nat) (hi : i < l.length) (hj : j < 3) : (flat l)[i * 3 + j]? = (encI (l.getD i default))[j]? := by
  induction l generalizing i with
  | nil => simp at hi
  | cons x l ih =>
    show (encI x ++ flat l)[i * 3 + j]? = _
    cases i with
    | zero =>
      rw [List.getElem?_append_left (by simp [encI]; omega)]
      simp
    | succ i =>
      rw [List.getElem?_append_right (by simp [encI]; omega)]
      have := ih i (by simpa using hi)
      rw [List.getD_cons_succ, ← this]
      congr 1
      simp [encI]
      omega
theorem flat_append (l m : List It) : flat (l ++ m) = flat l ++ flat m := by simp [flat]
theorem flat_set (l : List It) (i : Nat) (x : It) (hi : i < l.length) : flat (l.set i x) = (((flat l).set (i * 3) (.string x.name)).set (i * 3 + 1) (.int .u64 x.many)).set (i * 3 + 2) (.int .u64 x.over) := by
  induction l generalizing i with
  | nil => simp at hi
  | cons y l ih =>
    cases i with
    | zero => simp [flat, encI]
    | succ i =>
      have h := ih i (by simpa using hi)
      show encI y ++ flat (l.set i x) = _
      rw [h]
      show _ = (((encI y ++ flat l).set _ _).set _ _).set _ _
      rw [List.set_append_right _ _ (by simp [encI]; omega), List.set_append_right _ _ (by simp [encI]; omega), List.set_append_right _ _ (by simp [encI]; omega)]
      have e0 : (i + 1) * 3 - (encI y).length = i * 3 := by show (i + 1) * 3 - 3 = _; omega
      have e1 : (i + 1) * 3 + 1 - (encI y).length = i * 3 + 1 := by show (i + 1) * 3 + 1 - 3 = _; omega
      have e2 : (i + 1) * 3 + 2 - (encI y).length = i * 3 + 2 := by show (i + 1) * 3 + 2 - 3 = _; omega
      rw [e0, e1, e2]

/-- The row of items at A. -/
structure Its (w : World) (base : Nat) (A : Option Addr) (n c : Nat) (l : List It) : Prop where
  own : w.ownsRow base 75 3 (.slice A n c) n (flat l)

section
variable {w w' : World} {base : Nat} {A : Option Addr} {n c : Nat} {l : List It}
theorem Its.len (h : Its w base A n c l) : l.length = n := by
  have := h.own.1
  rw [flat_len] at this
  omega
theorem Its.nil : Its w base none 0 0 [] := ⟨World.ownsRow_nil w base _ 3⟩
theorem Its.row (h : Its w base A n c l) (hn : 0 < n) : ∃ g, A = some ⟨g, 0, none⟩ ∧ base ≤ g ∧ g < w.heap.size ∧ n ≤ c ∧ ∀ i, i < n → w.cell? ⟨g, i * 3, none⟩ = some (.string (l.getD i default).name) ∧ w.cell? ⟨g, i * 3 + 1, none⟩ = some (.int .u64 (l.getD i default).many) ∧ w.cell? ⟨g, i * 3 + 2, none⟩ = some (.int .u64 (l.getD i default).over) := by
  have hl := h.len
  rcases h.own.2 with ⟨e1, e2⟩ | ⟨g, cap, cur, e1, hb, hg, hnc, hcm, hcs, ht⟩
  · omega
  · injection e1 with h0 h1 h2
    subst h0
    have hc := h.own.cells (g := g) rfl
    have hx := fun i (hi : i < n) j (hj : j < 3) => hc (i * 3 + j)
    refine ⟨g, rfl, hb, ?_, by omega, fun i hi => ⟨?_, ?_, ?_⟩⟩
    · rcases Nat.lt_or_ge g w.heap.size with h3 | h3
      · exact h3
      · rw [Array.getElem?_eq_none h3] at hg; cases hg
    · have := hc (i * 3 + 0) _ ((flat_get l i 0 (by omega) (by omega)).trans rfl)
      rw [addr_add] at this
      simpa using this
    · have := hc (i * 3 + 1) _ ((flat_get l i 1 (by omega) (by omega)).trans rfl)
      rw [addr_add] at this
      simpa using this
    · have := hc (i * 3 + 2) _ ((flat_get l i 2 (by omega) (by omega)).trans rfl)
      rw [addr_add] at this
      simpa using this
end

/-- A block of another element type is not the row. -/
theorem Its.far {w : World} {base : Nat} {A : Option Addr} {n c : Nat} {l : List It} (h : Its w base A n c l) {g : Nat} {t : TypeId} {cs : Array Value} (B : Blk w g t cs) (ht : t ≠ 75) : some g ≠ Value.ownBlock (.slice A n c) := by
  rcases h.own.2 with ⟨e1, _⟩ | ⟨r, cap, cur, e1, _, hg, _⟩ <;> rw [e1]
  · simp [Value.ownBlock]
  · intro e
    simp [Value.ownBlock] at e
    subst e
    unfold Blk at B
    rw [hg] at B
    injection B with B
    injection B with _ h2
    exact ht h2.symm
theorem own_form {w : World} {base : Nat} {v : Value} {n : Nat} {xs : List Value} {e : TypeId} {z : Nat} (h : w.ownsRow base e z v n xs) : ∃ A c, v = .slice A n c := by
  rcases h.2 with ⟨rfl, rfl⟩ | ⟨g, cap, cur, rfl, _⟩
  · exact ⟨none, 0, rfl⟩
  · exact ⟨_, _, rfl⟩
/-- Only blocks of S (and new ones) have turned. -/
structure Only (w w' : World) (S : Nat → Prop) : Prop where
  os : w'.os = w.os
  tape : w'.tape = w.tape
  output : w'.output = w.output
  size : w.heap.size ≤ w'.heap.size
  block : ∀ i, i < w.heap.size → ¬ S i → w'.heap[i]? = w.heap[i]?
section
variable {w w' w1 : World} {S : Nat → Prop} {g : Nat} {t : TypeId} {cs : Array Value}
theorem Only.refl (w : World) (S : Nat → Prop) : Only w w S := ⟨rfl, rfl, rfl, Nat.le_refl _, fun _ _ _ => rfl⟩
theorem Only.trans (h : Only w w' S) (k : Only w' w1 S) : Only w w1 S := ⟨k.os.trans h.os, k.tape.trans h.tape, k.output.trans h.output, Nat.le_trans h.size k.size, fun i hi hn => (k.block i (Nat.lt_of_lt_of_le hi h.size) hn).trans (h.block i hi hn)⟩
theorem Only.of_below (h : Below w.heap.size w w') : Only w w' S := ⟨h.os, h.tape, h.output, h.size, fun i hi _ => h.block i hi⟩
theorem Only.step (h : Only w w' S) (k : Below w'.heap.size w' w1) : Only w w1 S := ⟨k.os.trans h.os, k.tape.trans h.tape, k.output.trans h.output, Nat.le_trans h.size k.size, fun i hi hn => (k.block i (Nat.lt_of_lt_of_le hi h.size)).trans (h.block i hi hn)⟩
theorem Only.of_grown {row : Option Nat} (h : w.grownBy w' row) (hs : ∀ i, row = some i → S i) : Only w w' S := ⟨h.os, h.tape, h.output, h.size, fun i hi hn => h.block i hi (fun e => hn (hs i e.symm))⟩
theorem Only.grown {row : Option Nat} (h : Only w w' S) (k : w'.grownBy w1 row) (hs : ∀ i, row = some i → S i ∨ w.heap.size ≤ i) : Only w w1 S :=
  ⟨k.os.trans h.os, k.tape.trans h.tape, k.output.trans h.output, Nat.le_trans h.size k.size, fun i hi hn => (k.block i (Nat.lt_of_lt_of_le hi h.size) (fun e => by
    rcases hs i e.symm with h1 | h1
    · exact hn h1
    · omega)).trans (h.block i hi hn)⟩
theorem Only.blk (h : Only w w' S) (B : Blk w g t cs) (hn : ¬ S g) : Blk w' g t cs := (h.block g B.lt hn).trans B
theorem Only.below {W : World} {base : Nat} (h : Only w w' S) (hB : Below base W w) (hb : base ≤ w.heap.size) (hs : ∀ i, i < base → ¬ S i) : Below base W w' :=
  ⟨h.os.trans hB.os, h.tape.trans hB.tape, h.output.trans hB.output, Nat.le_trans hB.size h.size, fun i hi => (h.block i (Nat.lt_of_lt_of_le hi hb) (hs i hi)).trans (hB.block i hi)⟩
end
end Go.Proofs.YtapiehddcdnadaaGreatDoor
namespace Go.Proofs.YtapiehddcdnadaaGreatDoor
open Go.RowKit
set_option linter.unusedVariables false
set_option linter.unusedSimpArgs false

/-- The top at g. -/
structure Tp (w : World) (base g : Nat) (room seen : Nat) (A : Option Addr) (n c : Nat) (l : List It) : Prop where
  blk : Blk w g 122 #[.slice A n c, .int .i64 room, .int .u64 seen]
  its : Its w base A n c l
  g0 : base ≤ g
  rm : 1 ≤ room ∧ room ≤ 16
  ln : n ≤ room
  sn : seen ≤ 4611686018427387904
  bd : ∀ x ∈ l, x.many ≤ 4611686018427387904 ∧ x.over ≤ 4611686018427387904

theorem worse_iff (a b : It) : worse a b = true ↔ a.many < b.many ∨ (a.many = b.many ∧ a.name.data.toList < b.name.data.toList) := by
  unfold worse
  simp

theorem less_iff (a b : ByteArray) : Op.bytesLess a.toList b.toList = decide (a.data.toList < b.data.toList) := by
  rw [Go.Proofs.bytesLess_eq, Lib.toList_data, Lib.toList_data]

theorem findI_at {l : List It} {nm : ByteArray} {j : Nat} (hj : j < l.length) (h : (l.getD j default).name.data.toList = nm.data.toList) (hn : ∀ q, q < j → (l.getD q default).name.data.toList ≠ nm.data.toList) : findI l nm = some j := by
  unfold findI
  rw [List.findIdx?_eq_some_iff_getElem]
  refine ⟨hj, ?_, fun q hq => ?_⟩
  · rw [it_get l j hj] at h; simpa using h
  · have := hn q hq
    rw [it_get l q (by omega)] at this
    simpa using this
theorem findI_no {l : List It} {nm : ByteArray} (hn : ∀ q, q < l.length → (l.getD q default).name.data.toList ≠ nm.data.toList) : findI l nm = none := by
  unfold findI
  rw [List.findIdx?_eq_none_iff]
  intro x hx
  obtain ⟨q, hq, rfl⟩ := List.mem_iff_getElem.1 hx
  have := hn q hq
  rw [it_get l q hq] at this
  simpa using this
theorem worstTo_keep {l : List It} {j : Nat} (h : worse (l.getD j default) (l.getD (worstTo l j) default) = false) : worstTo l (j + 1) = worstTo l j := by
  show (if worse _ _ = true then _ else _) = _
  rw [h]; rfl
theorem worstTo_turn {l : List It} {j : Nat} (h : worse (l.getD j default) (l.getD (worstTo l j) default) = true) : worstTo l (j + 1) = j := by
  show (if worse _ _ = true then _ else _) = _
  rw [if_pos h]

set_option maxRecDepth 100000 in
set_option maxHeartbeats 2000000 in
theorem place_found (base g : Nat) (room seen : Nat) (A : Option Addr) (n c : Nat) (l : List It) (nm : ByteArray) (w : World) (T : Tp w base g room seen A n c l) (k : Nat) (hk : findI l nm = some k) :
    Calls Tryz.prog 80 #[.pointer (some ⟨g, 0, none⟩), .string nm] w fun e w' => e = .returned (.tuple #[.int .i64 k, .int .u64 0]) ∧ Below w.heap.size w w' := by
  have c0 : w.cell? ⟨g, 0, none⟩ = some (.slice A n c) := T.blk.cellAt 0 rfl
  have hln := T.its.len
  have hn16 : n ≤ 16 := by have := T.ln; have := T.rm; omega
  have hlt := T.blk.lt
  go_enter Tryz.func80, Tryz.ntmps80
  go_wp2_with fail
  go_step3
  go_wp2_with fail
  go_step3
  go_wp2_with fail
  go_loopw [4, 14] (fun at_ i wr => ∃ j : Nat, j ≤ n ∧ i = .int .i64 j ∧ at_ = .int .i64 (worstTo l j) ∧ Below w.heap.size w wr ∧ Hid (∀ q, q < j → (l.getD q default).name.data.toList ≠ nm.data.toList)) (fun _ i _ => n - (intOf i).toNat)
  case atStart => exact ⟨0, Nat.zero_le _, rfl, rfl, Below.refl _ _, Lib.hid (fun q h => by omega)⟩
  case round =>
    obtain ⟨j, hj, rfl, rfl, hB, HN⟩ := hrel
    by_cases hjn : j < n
    · obtain ⟨r, rfl, hr0, hr1, hrc, hcell⟩ := T.its.row (by omega)
      obtain ⟨x0, x1, x2⟩ := hcell j hjn
      have hwl : worstTo l j < n := by
        by_cases h : j = 0
        · subst h; exact hjn
        · have := worstTo_lt l j h; omega
      obtain ⟨y0, y1, y2⟩ := hcell (worstTo l j) hwl
      have e0 := (hB.cell (p := ⟨r, j * 3, none⟩) hr1).trans x0
      have e1 := (hB.cell (p := ⟨r, j * 3 + 1, none⟩) hr1).trans x1
      have e2 := (hB.cell (p := ⟨r, j * 3 + 2, none⟩) hr1).trans x2
      have f0 := (hB.cell (p := ⟨r, worstTo l j * 3, none⟩) hr1).trans y0
      have f1 := (hB.cell (p := ⟨r, worstTo l j * 3 + 1, none⟩) hr1).trans y1
      have f2 := (hB.cell (p := ⟨r, worstTo l j * 3 + 2, none⟩) hr1).trans y2
      have cg := (hB.cell (p := ⟨g, 0, none⟩) hlt).trans c0
      have hg2 : g < wr.heap.size := Nat.lt_of_lt_of_le hlt hB.size
      have hr2 : r < wr.heap.size := Nat.lt_of_lt_of_le hr1 hB.size
      clear x0 x1 x2 y0 y1 y2 hcell
      generalize hX : l.getD j default = X at *
      generalize hY : l.getD (worstTo l j) default = Y at *
      have HX := Lib.hid hX
      have HY := Lib.hid hY
      clear hX hY
      generalize hW : worstTo l j = wt at *
      have HW := Lib.hid hW
      clear hW
      have hj1 : (j : Int) < n := by omega
      have hw1 : (wt : Int) < n := by omega
      have hB2 : ∀ o1 o2, Below w.heap.size w ((wr.alloc o1).alloc o2) := fun o1 o2 => balloc (balloc hB _) _
      by_cases hname : X.name.data.toList = nm.data.toList
      · have hq : (X.name.toList == nm.toList) = true := by rw [Lib.toList_data, Lib.toList_data]; simpa using hname
        have hkj : findI l nm = some j := findI_at (by omega) (by rw [HX.out]; exact hname) HN.out
        have hkk : k = j := by rw [hkj] at hk; exact (Option.some.inj hk).symm
        have HKK := Lib.hid hkk
        clear hkk hkj hk hname
        go_wp2_with fail
        rw [Exit.noGoto_ret]
        go_ret2
        exact ⟨by rw [HKK.out]; rfl, hB2 _ _⟩
      · have hq : (X.name.toList == nm.toList) = false := by rw [Lib.toList_data, Lib.toList_data]; simpa using hname
        have HN2 : Hid (∀ q, q < j + 1 → (l.getD q default).name.data.toList ≠ nm.data.toList) := Lib.hid (fun q hq2 => by
          rcases Nat.lt_or_ge q j with h1 | h1
          · exact HN.out q h1
          · obtain rfl : q = j := by omega
            rw [HX.out]; exact hname)
        have HL := Lib.hid (less_iff X.name Y.name)
        have HV : Hid (worse X Y = (decide (X.many < Y.many) || (decide (X.many = Y.many) && decide (X.name.data.toList < Y.name.data.toList)))) := Lib.hid rfl
        have HK := Lib.hid hk
        clear hname hk HN
        rcases Nat.lt_trichotomy X.many Y.many with h1 | h1 | h1
        · have hw : worse X Y = true := by rw [HV.out]; simp [h1]
          have ht := worstTo_turn (l := l) (j := j) (by rw [HX.out, HW.out, HY.out]; exact hw)
          have HT := Lib.hid ht
          have n1 : ¬ (Y.many : Int) < X.many := by omega
          have n2 : ((X.many : Int) == Y.many) = false := by simp; omega
          clear ht hw
          go_wp2_with fail
          go_roundw
          case rel => exact ⟨j + 1, by omega, by go_num, by rw [HT.out], hB2 _ _, HN2⟩
          case measure => simp [intOf]; omega
        · cases hL2 : Op.bytesLess X.name.toList Y.name.toList
          · have hw : worse X Y = false := by
              rw [HV.out, ← HL.out, hL2]
              simp [h1]
            have HT := Lib.hid (worstTo_keep (l := l) (j := j) (by rw [HX.out, HW.out, HY.out]; exact hw))
            clear hw
            go_wp2_with fail
            go_roundw
            case rel => exact ⟨j + 1, by omega, by go_num, by rw [HT.out, HW.out], hB2 _ _, HN2⟩
            case measure => simp [intOf]; omega
          · have hw : worse X Y = true := by
              rw [HV.out, ← HL.out, hL2]
              simp [h1]
            have HT := Lib.hid (worstTo_turn (l := l) (j := j) (by rw [HX.out, HW.out, HY.out]; exact hw))
            clear hw
            go_wp2_with fail
            go_roundw
            case rel => exact ⟨j + 1, by omega, by go_num, by rw [HT.out], hB2 _ _, HN2⟩
            case measure => simp [intOf]; omega
        · have hw : worse X Y = false := by rw [HV.out]; simp; omega
          have HT := Lib.hid (worstTo_keep (l := l) (j := j) (by rw [HX.out, HW.out, HY.out]; exact hw))
          have n1 : (Y.many : Int) < X.many := by omega
          clear hw
          go_wp2_with fail
          go_roundw
          case rel => exact ⟨j + 1, by omega, by go_num, by rw [HT.out, HW.out], hB2 _ _, HN2⟩
          case measure => simp [intOf]; omega
    · obtain rfl : j = n := by omega
      have := findI_some hk
      exact absurd (this.2) (HN.out k (by omega))
end Go.Proofs.YtapiehddcdnadaaGreatDoor
namespace Go.Proofs.YtapiehddcdnadaaGreatDoor
open Go.RowKit
set_option linter.unusedVariables false
set_option linter.unusedSimpArgs false

theorem info_item : (Tryz.prog.info? 75).map (fun i => (i.zero, i.size, i.bytes)) = some (some (.agg #[.string ⟨#[]⟩, .int .u64 0, .int .u64 0]), 3, 32) := by kernel_rfl
theorem news_item {w : World} {g : Nat} {t : TypeId} {x : It} (h : Blk w g t #[.string x.name, .int .u64 x.many, .int .u64 x.over]) : ∀ j u, (encI x)[j]? = some u → w.cell? ((⟨g, 0, none⟩ : Addr).add j) = some u := by
  intro j u hu
  rw [addr_add, Nat.zero_add]
  refine h.cellAt j ?_
  simpa [encI] using hu

set_option maxRecDepth 100000 in
set_option maxHeartbeats 2000000 in
theorem place_none (base g : Nat) (room seen : Nat) (A : Option Addr) (n c : Nat) (l : List It) (nm : ByteArray) (w : World) (T : Tp w base g room seen A n c l) (hk : findI l nm = none) :
    Calls Tryz.prog 80 #[.pointer (some ⟨g, 0, none⟩), .string nm] w fun e w' => (n < room ∧ ∃ A' c', e = .returned (.tuple #[.int .i64 n, .int .u64 0]) ∧ Tp w' base g room seen A' (n + 1) c' (l ++ [⟨nm, 0, 0⟩]) ∧ Only w w' (fun i => i = g ∨ some i = Value.ownBlock (.slice A n c)) ∧ (Value.ownBlock (.slice A' (n + 1) c') = Value.ownBlock (.slice A n c) ∨ ∃ r, Value.ownBlock (.slice A' (n + 1) c') = some r ∧ w.heap.size ≤ r)) ∨
      (¬ n < room ∧ e = .returned (.tuple #[.int .i64 (worst l), .int .u64 (l.getD (worst l) default).many]) ∧ Tp w' base g room seen A n c (l.set (worst l) ⟨nm, (l.getD (worst l) default).many, (l.getD (worst l) default).many⟩) ∧ Only w w' (fun i => i = g ∨ some i = Value.ownBlock (.slice A n c))) := by
  have c0 : w.cell? ⟨g, 0, none⟩ = some (.slice A n c) := T.blk.cellAt 0 rfl
  have hln := T.its.len
  have hn16 : n ≤ 16 := by have := T.ln; have := T.rm; omega
  have hlt := T.blk.lt
  obtain ⟨i0, hi0, hz0, hz1, hz2⟩ := info_parts info_item
  go_enter Tryz.func80, Tryz.ntmps80
  go_wp2_with fail
  go_step3
  go_wp2_with fail
  go_step3
  go_wp2_with fail
  go_loopw [4, 14] (fun at_ i wr => ∃ j : Nat, j ≤ n ∧ i = .int .i64 j ∧ at_ = .int .i64 (worstTo l j) ∧ Below w.heap.size w wr ∧ Hid (∀ q, q < j → (l.getD q default).name.data.toList ≠ nm.data.toList)) (fun _ i _ => n - (intOf i).toNat)
  case atStart => exact ⟨0, Nat.zero_le _, rfl, rfl, Below.refl _ _, Lib.hid (fun q h => by omega)⟩
  case round =>
    obtain ⟨j, hj, rfl, rfl, hB, HN⟩ := hrel
    by_cases hjn : j < n
    · obtain ⟨r, rfl, hr0, hr1, hrc, hcell⟩ := T.its.row (by omega)
      obtain ⟨x0, x1, x2⟩ := hcell j hjn
      have hwl : worstTo l j < n := by
        by_cases h : j = 0
        · subst h; exact hjn
        · have := worstTo_lt l j h; omega
      obtain ⟨y0, y1, y2⟩ := hcell (worstTo l j) hwl
      have e0 := (hB.cell (p := ⟨r, j * 3, none⟩) hr1).trans x0
      have e1 := (hB.cell (p := ⟨r, j * 3 + 1, none⟩) hr1).trans x1
      have e2 := (hB.cell (p := ⟨r, j * 3 + 2, none⟩) hr1).trans x2
      have f0 := (hB.cell (p := ⟨r, worstTo l j * 3, none⟩) hr1).trans y0
      have f1 := (hB.cell (p := ⟨r, worstTo l j * 3 + 1, none⟩) hr1).trans y1
      have f2 := (hB.cell (p := ⟨r, worstTo l j * 3 + 2, none⟩) hr1).trans y2
      have cg := (hB.cell (p := ⟨g, 0, none⟩) hlt).trans c0
      have hg2 : g < wr.heap.size := Nat.lt_of_lt_of_le hlt hB.size
      have hr2 : r < wr.heap.size := Nat.lt_of_lt_of_le hr1 hB.size
      clear x0 x1 x2 y0 y1 y2 hcell
      generalize hX : l.getD j default = X at *
      generalize hY : l.getD (worstTo l j) default = Y at *
      have HX := Lib.hid hX
      have HY := Lib.hid hY
      clear hX hY
      generalize hW : worstTo l j = wt at *
      have HW := Lib.hid hW
      clear hW
      have hj1 : (j : Int) < n := by omega
      have hw1 : (wt : Int) < n := by omega
      have hB2 : ∀ o1 o2, Below w.heap.size w ((wr.alloc o1).alloc o2) := fun o1 o2 => balloc (balloc hB _) _
      by_cases hname : X.name.data.toList = nm.data.toList
      · have hq : (X.name.toList == nm.toList) = true := by rw [Lib.toList_data, Lib.toList_data]; simpa using hname
        have hkj : findI l nm = some j := findI_at (by omega) (by rw [HX.out]; exact hname) HN.out
        rw [hk] at hkj
        cases hkj
      · have hq : (X.name.toList == nm.toList) = false := by rw [Lib.toList_data, Lib.toList_data]; simpa using hname
        have HN2 : Hid (∀ q, q < j + 1 → (l.getD q default).name.data.toList ≠ nm.data.toList) := Lib.hid (fun q hq2 => by
          rcases Nat.lt_or_ge q j with h1 | h1
          · exact HN.out q h1
          · obtain rfl : q = j := by omega
            rw [HX.out]; exact hname)
        have HL := Lib.hid (less_iff X.name Y.name)
        have HV : Hid (worse X Y = (decide (X.many < Y.many) || (decide (X.many = Y.many) && decide (X.name.data.toList < Y.name.data.toList)))) := Lib.hid rfl
        have HK := Lib.hid hk
        clear hname hk HN
        rcases Nat.lt_trichotomy X.many Y.many with h1 | h1 | h1
        · have hw : worse X Y = true := by rw [HV.out]; simp [h1]
          have ht := worstTo_turn (l := l) (j := j) (by rw [HX.out, HW.out, HY.out]; exact hw)
          have HT := Lib.hid ht
          have n1 : ¬ (Y.many : Int) < X.many := by omega
          have n2 : ((X.many : Int) == Y.many) = false := by simp; omega
          clear ht hw
          go_wp2_with fail
          go_roundw
          case rel => exact ⟨j + 1, by omega, by go_num, by rw [HT.out], hB2 _ _, HN2⟩
          case measure => simp [intOf]; omega
        · cases hL2 : Op.bytesLess X.name.toList Y.name.toList
          · have hw : worse X Y = false := by
              rw [HV.out, ← HL.out, hL2]
              simp [h1]
            have HT := Lib.hid (worstTo_keep (l := l) (j := j) (by rw [HX.out, HW.out, HY.out]; exact hw))
            clear hw
            go_wp2_with fail
            go_roundw
            case rel => exact ⟨j + 1, by omega, by go_num, by rw [HT.out, HW.out], hB2 _ _, HN2⟩
            case measure => simp [intOf]; omega
          · have hw : worse X Y = true := by
              rw [HV.out, ← HL.out, hL2]
              simp [h1]
            have HT := Lib.hid (worstTo_turn (l := l) (j := j) (by rw [HX.out, HW.out, HY.out]; exact hw))
            clear hw
            go_wp2_with fail
            go_roundw
            case rel => exact ⟨j + 1, by omega, by go_num, by rw [HT.out], hB2 _ _, HN2⟩
            case measure => simp [intOf]; omega
        · have hw : worse X Y = false := by rw [HV.out]; simp; omega
          have HT := Lib.hid (worstTo_keep (l := l) (j := j) (by rw [HX.out, HW.out, HY.out]; exact hw))
          have n1 : (Y.many : Int) < X.many := by omega
          clear hw
          go_wp2_with fail
          go_roundw
          case rel => exact ⟨j + 1, by omega, by go_num, by rw [HT.out, HW.out], hB2 _ _, HN2⟩
          case measure => simp [intOf]; omega
    · obtain rfl : j = n := by omega
      have cg := (hB.cell (p := ⟨g, 0, none⟩) hlt).trans c0
      have cg1 : wr.cell? ⟨g, 1, none⟩ = some (.int .i64 room) := (hB.cell (p := ⟨g, 1, none⟩) hlt).trans (T.blk.cellAt 1 rfl)
      by_cases hroom : j < room
      · have hr1 : (j : Int) < room := by omega
        go_wp2_with fail
        go_quiet (fail)
        have hBd : Below w.heap.size w (wr.drewN nq) := bdrewN hB _
        have hsz : w.heap.size ≤ (wr.drewN nq).heap.size := hBd.size
        have hown : (wr.drewN nq).ownsRow base 75 3 (.slice A j c) j (flat l) := T.its.own.kept (only_of_below hBd none) (by rcases Value.ownBlock (.slice A j c) with _ | z; exact .inl rfl; exact .inr (by simp))
        have cgd : (wr.drewN nq).cell? ⟨g, 0, none⟩ = some (.slice A j c) := cg
        have hg3 : g < (wr.drewN nq).heap.size := Nat.lt_of_lt_of_le hlt hsz
        have hbase : base ≤ w.heap.size := by have := T.g0; omega
        generalize wr.drewN nq = wq at *
        go_wp2_with (first
          | (at_builtin
             go_loud (refine wpList_append_own_at _ rfl _ _ 57 rfl base 75 i0 _ 3 32 Tryz.underlying57 hi0 hz0 hz1 hz2 rfl (by omega) (.slice A j c) j (flat l) rfl (hown.alloc _) ⟨wq.heap.size, 0, none⟩ 1 1 (encI ⟨nm, 0, 0⟩) rfl rfl (news_item (Blk.new wq _ _)) (by intro u hu; simp only [encI, List.mem_cons, List.not_mem_nil, or_false] at hu; rcases hu with rfl | rfl | rfl <;> rfl) (by simp only [maxLen]; omega) (by omega) (by simp; omega) ?_)
             intro v' w5 hown5 hG5 hnil5 hat5
             obtain ⟨A', c', rfl⟩ := own_form hown5
             have hBg : Blk wq g 122 #[.slice A j c, .int .i64 room, .int .u64 seen] := Blk.step hBd T.blk
             have hB5 := Blk.grown hG5 (hBg.alloc _) (T.its.far T.blk (by decide))
             have f5 := hB5.frozen 0
             have cg5 : w5.cell? ⟨g, 0, none⟩ = some (.slice A j c) := hB5.cellAt 0 rfl))
        rw [Exit.noGoto_ret]
        go_ret2
        have hI5 : Its w5 base A' (j + 1) c' (l ++ [⟨nm, 0, 0⟩]) := ⟨by rw [flat_append]; exact hown5⟩
        have hfar5 := hI5.far hB5 (by decide)
        have hP := hB5.put 0 (.slice A' (j + 1) c')
        have hG6 : w5.grownBy (w5.setCell ⟨g, 0, none⟩ (.slice A' (j + 1) c')) (some g) := only_setCell (only_refl _ _) (.inl rfl) _
        refine .inl ⟨hroom, A', c', rfl, ⟨hP, ⟨hI5.own.kept hG6 (.inr (fun e => hfar5 e.symm))⟩, T.g0, T.rm, hroom, T.sn, ?_⟩, ?_, ?_⟩
        · intro x hx
          rcases List.mem_append.1 hx with h1 | h1
          · exact T.bd x h1
          · rw [List.mem_singleton] at h1
            subst h1
            exact ⟨Nat.zero_le _, Nat.zero_le _⟩
        · exact (((Only.of_below hBd).step (balloc (Below.refl _ _) _)).grown hG5 (fun i hi => .inl (.inr hi.symm))).grown hG6 (fun i hi => by cases hi; exact .inl (.inl rfl))
        · rcases hat5 with h | h
          · exact .inl h
          · exact .inr ⟨_, h, by simp; omega⟩
      · have hr1 : ¬ (j : Int) < room := by omega
        have hj0 : 0 < j := by have := T.rm; omega
        have hl0 : l ≠ [] := fun e => by rw [e] at hln; simp at hln; omega
        have hwl : worst l < j := by rw [← hln]; exact worst_lt l hl0
        obtain ⟨r, rfl, hr0, hrlt, hrc, hcell⟩ := T.its.row hj0
        obtain ⟨x0, x1, x2⟩ := hcell (worst l) hwl
        have HWW := Lib.hid (show worstTo l j = worst l by unfold worst; rw [hln])
        clear hcell
        rw [HWW.out]
        go_wp2_with fail
        go_quiet (fail)
        have hBd : Below w.heap.size w (wr.drewN nq) := bdrewN hB _
        have hown := T.its.own.kept (only_of_below hBd none) (.inr (by simp [Value.ownBlock]))
        have cgd : (wr.drewN nq).cell? ⟨g, 0, none⟩ = some (.slice (some ⟨r, 0, none⟩) j c) := cg
        have y0 := (hBd.cell (p := ⟨r, worst l * 3, none⟩) hrlt).trans x0
        have y1 := (hBd.cell (p := ⟨r, worst l * 3 + 1, none⟩) hrlt).trans x1
        have y2 := (hBd.cell (p := ⟨r, worst l * 3 + 2, none⟩) hrlt).trans x2
        clear x0 x1 x2 cg cg1
        generalize hW2 : worst l = wi at *
        generalize (l.getD wi default).name = wn at *
        generalize (l.getD wi default).over = wo at *
        generalize hM : (l.getD wi default).many = wm at *
        have HM := Lib.hid hM
        have HW2 := Lib.hid hW2
        clear hM hW2
        have hw1 : (wi : Int) < j := by omega
        have hBg : Blk (wr.drewN nq) g 122 #[.slice (some ⟨r, 0, none⟩) j c, .int .i64 room, .int .u64 seen] := Blk.step hBd T.blk
        have hfar := T.its.far T.blk (by decide)
        generalize wr.drewN nq = wq at *
        have z0 := hown.frozenAt (wi * 3)
        obtain ⟨o1, g1⟩ := hown.stored (wi * 3) (.string nm)
        have z1 := o1.frozenAt (wi * 3 + 1)
        obtain ⟨o2, g2⟩ := o1.stored (wi * 3 + 1) (.int .u64 wm)
        have z2 := o2.frozenAt (wi * 3 + 2)
        obtain ⟨o3, g3⟩ := o2.stored (wi * 3 + 2) (.int .u64 wm)
        go_wp2_with fail
        rw [Exit.noGoto_ret]
        go_ret2
        have hset : (((flat l).set (wi * 3) (.string nm)).set (wi * 3 + 1) (.int .u64 wm)).set (wi * 3 + 2) (.int .u64 wm) = flat (l.set wi ⟨nm, wm, wm⟩) := (flat_set l wi ⟨nm, wm, wm⟩ (by omega)).symm
        have hg123 := (g1.trans g2).trans g3
        have hwm : wm ≤ 4611686018427387904 := by rw [← HM.out, it_get l wi (by omega)]; exact (T.bd _ (List.getElem_mem _)).1
        refine .inr ⟨hroom, ?_, ?_, ?_⟩
        · rw [HW2.out, HM.out]; rfl
        · rw [HW2.out, HM.out]
          refine ⟨hBg.grown hg123 (by simpa [Value.ownBlock] using hfar), ⟨by rw [← hset]; exact o3⟩, T.g0, T.rm, T.ln, T.sn, ?_⟩
          intro x hx
          rcases mem_set_it (by omega) hx with rfl | ⟨q, hq, _, rfl⟩
          · exact ⟨hwm, hwm⟩
          · exact T.bd _ (List.getElem_mem _)
        · exact (Only.of_below hBd).grown hg123 (fun i hi => by cases hi; exact .inl (.inr rfl))
end Go.Proofs.YtapiehddcdnadaaGreatDoor
namespace Go.Proofs.YtapiehddcdnadaaGreatDoor
open Go.RowKit Go.ChangeShapes Go.WideShapes Go.ChangeAt Go.Deep
set_option linter.unusedVariables false
set_option linter.unusedSimpArgs false

/-- n deeds lie at a. -/
structure DeedsT (W : World) (a : Option Addr) (n : Nat) : Prop where
  le : n ≤ 9223372036854775807
  at_ : 0 < n → ∃ b off, a = some ⟨b, off, none⟩ ∧ b < W.heap.size ∧ ∀ i, i < n → ∃ (k by_ : Nat) (s : ByteArray), W.cell? ⟨b, off + i * 3, none⟩ = some (.int .u8 k) ∧ W.cell? ⟨b, off + i * 3 + 1, none⟩ = some (.string s) ∧ W.cell? ⟨b, off + i * 3 + 2, none⟩ = some (.int .u64 by_) ∧ k ≤ 255 ∧ by_ < 18446744073709551616
end Go.Proofs.YtapiehddcdnadaaGreatDoor
