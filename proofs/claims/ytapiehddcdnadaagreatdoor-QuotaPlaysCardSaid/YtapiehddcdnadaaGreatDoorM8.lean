/- Add. New, Seen, Room, Clear, Least. New, Seen, Room, Clear, Least. order. order: the sort's own comparison. The sort's row: what lies there behind it. Items. -/
import Derived.Test.YtapiehddcdnadaaGreatDoorM7
import Derived.Test.YtapiehddcdnadaaGreatDoorTopO
import Derived.Sort.Grow
import Derived.Handy
import Derived.Deep.CutBlock
import Derived.Deep.DeepCutAuto
import Derived.Test.YtapiehddcdnadaaGreatDoorShelf
import Derived.Deep.RegionWith
import Derived.Shelf.SlSortCmp.NoneTotal
import Derived.Sort.OwnSorted
namespace Go.Proofs.YtapiehddcdnadaaGreatDoor
open Go.RowKit
set_option linter.unusedVariables false
set_option linter.unusedSimpArgs false

theorem flat_many (l : List It) (i : Nat) (v : Nat) (hi : i < l.length) : (flat l).set (i * 3 + 1) (.int .u64 v) = flat (l.set i ⟨(l.getD i default).name, v, (l.getD i default).over⟩) := by
  induction l generalizing i with
  | nil => simp at hi
  | cons y l ih =>
    cases i with
    | zero => simp [flat, encI]
    | succ i =>
      have h := ih i (by simpa using hi)
      rw [List.getD_cons_succ]
      show (encI y ++ flat l).set _ _ = encI y ++ flat (l.set i _)
      rw [← h, List.set_append_right _ _ (by simp [encI]; omega)]
      have e1 : (i + 1) * 3 + 1 - (encI y).length = i * 3 + 1 := by show (i + 1) * 3 + 1 - 3 = _; omega
      rw [e1]

/-- What an addition answers. -/
def addE (seen : Nat) (nm : ByteArray) (by_ : Nat) : Nat := if 64 < nm.size ∨ by_ = 0 then 1 else if 4611686018427387904 - seen < by_ then 7 else 0
/-- The items behind a deed that is let in. -/
def stepT (room seen : Nat) (l : List It) (nm : ByteArray) (by_ : Nat) : List It := if addE seen nm by_ = 0 then addT room l nm by_ else l
def stepS (seen : Nat) (nm : ByteArray) (by_ : Nat) : Nat := if addE seen nm by_ = 0 then seen + by_ else seen

/-- What holds of the items. -/
structure Inv (room seen : Nat) (l : List It) : Prop where
  sum : (l.map (·.many)).sum = seen
  nd : (nms l).Nodup
  len : l.length ≤ room
  sn : seen ≤ 4611686018427387904
theorem mem_le_sum {l : List It} {x : It} (h : x ∈ l) : x.many ≤ (l.map (·.many)).sum := by
  induction l with
  | nil => cases h
  | cons y l ih =>
    simp only [List.map_cons, List.sum_cons]
    rcases List.mem_cons.1 h with rfl | h
    · omega
    · have := ih h; omega
theorem addT_sum {room : Nat} {l : List It} (h0 : 0 < room) (nm : ByteArray) (n : Nat) : ((addT room l nm n).map (·.many)).sum = (l.map (·.many)).sum + n := by
  unfold addT
  cases hf : findI l nm with
  | some k =>
    obtain ⟨hk, _⟩ := findI_some hf
    have := sum_set l k ⟨(l.getD k default).name, (l.getD k default).many + n, (l.getD k default).over⟩ hk
    simp only at *
    omega
  | none =>
    simp only
    split
    · simp
    · have hl : l ≠ [] := fun e => by subst e; simp at *; omega
      have := sum_set l (worst l) ⟨nm, (l.getD (worst l) default).many + n, (l.getD (worst l) default).many⟩ (worst_lt l hl)
      simp only at *
      omega
theorem addT_len {room : Nat} {l : List It} (nm : ByteArray) (n : Nat) (h : l.length ≤ room) : (addT room l nm n).length ≤ room := by
  unfold addT
  cases findI l nm with
  | some k => simpa using h
  | none =>
    simp only
    split
    · simp; omega
    · simpa using h
theorem addT_nodup {room : Nat} {l : List It} (h : (nms l).Nodup) (nm : ByteArray) (n : Nat) : (nms (addT room l nm n)).Nodup := by
  unfold addT
  cases hf : findI l nm with
  | some k =>
    obtain ⟨hk, hn⟩ := findI_some hf
    simp only [nms, List.map_set]
    have e : (l.map (·.name.data.toList)).set k (l.getD k default).name.data.toList = l.map (·.name.data.toList) := by
      have := @List.set_getElem_self _ (l.map (·.name.data.toList)) k (by simpa using hk)
      rw [it_get l k hk]
      simpa using this
    rw [e]
    exact h
  | none =>
    have hno := findI_none hf
    simp only
    split
    · simp only [nms, List.map_append, List.map_singleton, List.nodup_append]
      refine ⟨h, by simp, fun a ha b hb e => ?_⟩
      rw [List.mem_singleton] at hb
      rw [e, hb] at ha
      exact hno ha
    · simp only [nms, List.map_set]
      exact nodup_set h hno _
theorem addE_zero {seen : Nat} {nm : ByteArray} {by_ : Nat} (h : addE seen nm by_ = 0) : nm.size ≤ 64 ∧ by_ ≠ 0 ∧ by_ ≤ 4611686018427387904 - seen := by
  unfold addE at h
  split at h
  · cases h
  · next h1 =>
    split at h
    · cases h
    · next h2 => rw [not_or] at h1; exact ⟨by omega, h1.2, by omega⟩
theorem Inv.step {room seen : Nat} {l : List It} (h : Inv room seen l) (h0 : 0 < room) (nm : ByteArray) (n : Nat) : Inv room (stepS seen nm n) (stepT room seen l nm n) := by
  unfold stepS stepT
  by_cases he : addE seen nm n = 0
  · rw [if_pos he, if_pos he]
    have := addE_zero he
    have := h.sn
    exact ⟨by rw [addT_sum h0, h.sum], addT_nodup h.nd _ _, addT_len _ _ h.len, by omega⟩
  · rw [if_neg he, if_neg he]
    exact h

/-- The row is the old one, or new. -/
def RowNew (w : World) (v v' : Value) : Prop := Value.ownBlock v' = Value.ownBlock v ∨ ∃ r, Value.ownBlock v' = some r ∧ w.heap.size ≤ r
/-- The top's own blocks. -/
def mine (g : Nat) (v : Value) : Nat → Prop := fun i => i = g ∨ some i = Value.ownBlock v

theorem Tp.seen' {w : World} {base g room seen : Nat} {A : Option Addr} {n c : Nat} {l : List It} (T : Tp w base g room seen A n c l) (s : Nat) (hs : s ≤ 4611686018427387904) :
    Tp (w.setCell ⟨g, 2, none⟩ (.int .u64 s)) base g room s A n c l ∧ Only w (w.setCell ⟨g, 2, none⟩ (.int .u64 s)) (fun i => i = g) := by
  have hg : w.grownBy (w.setCell ⟨g, 2, none⟩ (.int .u64 s)) (some g) := only_setCell (only_refl _ _) (.inl rfl) _
  refine ⟨⟨T.blk.put 2 _, ⟨T.its.own.kept hg (.inr (fun e => T.its.far T.blk (by decide) e.symm))⟩, T.g0, T.rm, T.ln, hs, T.bd⟩, ?_⟩
  exact Only.of_grown hg (fun i hi => by cases hi; rfl)
theorem Tp.many' {w : World} {base g room seen r : Nat} {n c : Nat} {l : List It} (T : Tp w base g room seen (some ⟨r, 0, none⟩) n c l) (k : Nat) (hk : k < n) (v : Nat) (hv : v ≤ 4611686018427387904) :
    Tp (w.setCell ⟨r, k * 3 + 1, none⟩ (.int .u64 v)) base g room seen (some ⟨r, 0, none⟩) n c (l.set k ⟨(l.getD k default).name, v, (l.getD k default).over⟩) ∧ Only w (w.setCell ⟨r, k * 3 + 1, none⟩ (.int .u64 v)) (fun i => i = r) := by
  have hln := T.its.len
  obtain ⟨o, hg⟩ := T.its.own.stored (k * 3 + 1) (.int .u64 v)
  refine ⟨⟨T.blk.grown hg (by simpa [Value.ownBlock] using T.its.far T.blk (by decide)), ⟨by rw [← flat_many l k v (by omega)]; exact o⟩, T.g0, T.rm, T.ln, T.sn, ?_⟩, Only.of_grown hg (fun i hi => by cases hi; rfl)⟩
  intro x hx
  rcases mem_set_it (by omega) hx with rfl | ⟨q, hq, _, rfl⟩
  · refine ⟨hv, ?_⟩
    rw [it_get l k (by omega)]
    exact (T.bd _ (List.getElem_mem _)).2
  · exact T.bd _ (List.getElem_mem _)

theorem Only.mono {w w' : World} {S S' : Nat → Prop} (h : Only w w' S) (hs : ∀ i, i < w.heap.size → S i → S' i) : Only w w' S' := ⟨h.os, h.tape, h.output, h.size, fun i hi hn => h.block i hi (fun k => hn (hs i hi k))⟩

theorem Only.andThen {w w' w1 : World} {S S' : Nat → Prop} (h : Only w w' S) (k : Only w' w1 S') (hs : ∀ i, i < w.heap.size → S' i → S i) : Only w w1 S := ⟨k.os.trans h.os, k.tape.trans h.tape, k.output.trans h.output, Nat.le_trans h.size k.size, fun i hi hn => (k.block i (Nat.lt_of_lt_of_le hi h.size) (fun x => hn (hs i hi x))).trans (h.block i hi hn)⟩

theorem place_call (base g : Nat) (room seen : Nat) (A : Option Addr) (n c : Nat) (l : List It) (nm : ByteArray) (w : World) (T : Tp w base g room seen A n c l) :
    Calls Tryz.prog 80 #[.pointer (some ⟨g, 0, none⟩), .string nm] w fun e w' => ∃ (k ov : Nat) (r n' c' : Nat) (l' : List It), e = .returned (.tuple #[.int .i64 k, .int .u64 ov]) ∧ Tp w' base g room seen (some ⟨r, 0, none⟩) n' c' l' ∧ k < n' ∧
      (∀ by_, l'.set k ⟨(l'.getD k default).name, (l'.getD k default).many + by_, (l'.getD k default).over⟩ = addT room l nm by_) ∧ (l'.getD k default).many ≤ (l.map (·.many)).sum ∧
      Only w w' (mine g (.slice A n c)) ∧ RowNew w (.slice A n c) (.slice (some ⟨r, 0, none⟩) n' c') := by
  have hln := T.its.len
  cases hf : findI l nm with
  | some k =>
    obtain ⟨hk, hn⟩ := findI_some hf
    obtain ⟨r, rfl, h1, h2, h3, h4⟩ := T.its.row (by omega)
    refine (place_found base g room seen (some ⟨r, 0, none⟩) n c l nm w T k hf).mono ?_
    rintro e w1 ⟨rfl, hB⟩
    refine ⟨k, 0, r, n, c, l, rfl, ⟨Blk.step hB T.blk, ⟨T.its.own.kept (only_of_below hB none) (.inr (by simp [Value.ownBlock]))⟩, T.g0, T.rm, T.ln, T.sn, T.bd⟩, by omega, ?_, ?_, Only.of_below hB, .inl rfl⟩
    · intro by_; unfold addT; rw [hf]
    · rw [it_get l k hk]; exact mem_le_sum (List.getElem_mem hk)
  | none =>
    refine (place_none base g room seen A n c l nm w T hf).mono ?_
    rintro e w1 (⟨hr, A', c', rfl, T', hO, hN⟩ | ⟨hr, rfl, T', hO⟩)
    · obtain ⟨r, rfl, h1, h2, h3, h4⟩ := T'.its.row (by omega)
      have hg : (l ++ [(⟨nm, 0, 0⟩ : It)]).getD n default = ⟨nm, 0, 0⟩ := by
        rw [List.getD_eq_getElem?_getD, ← hln]; simp
      refine ⟨n, 0, r, n + 1, c', _, rfl, T', by omega, ?_, ?_, hO, hN⟩
      · intro by_
        rw [hg]
        unfold addT
        rw [hf]
        simp only
        rw [if_pos (by omega), ← hln, List.set_append_right _ _ (Nat.le_refl _)]
        simp
      · rw [hg]; exact Nat.zero_le _
    · have hn0 : 0 < n := by have := T.rm; omega
      have hl : l ≠ [] := fun e => by subst e; simp at hln; omega
      have hw := worst_lt l hl
      obtain ⟨r, rfl, h1, h2, h3, h4⟩ := T.its.row hn0
      have hg : (l.set (worst l) (⟨nm, (l.getD (worst l) default).many, (l.getD (worst l) default).many⟩ : It)).getD (worst l) default = ⟨nm, (l.getD (worst l) default).many, (l.getD (worst l) default).many⟩ := by
        rw [it_get _ _ (by simpa using hw)]; simp
      refine ⟨worst l, _, r, n, c, _, rfl, T', by omega, ?_, ?_, hO, .inl rfl⟩
      · intro by_
        rw [hg]
        unfold addT
        rw [hf]
        simp only
        rw [if_neg (by omega), List.set_set]
      · rw [hg]
        show (l.getD (worst l) default).many ≤ _
        rw [it_get l _ hw]
        exact mem_le_sum (List.getElem_mem hw)

set_option maxRecDepth 100000 in
set_option maxHeartbeats 2000000 in
theorem add_call (base g : Nat) (room seen : Nat) (A : Option Addr) (n c : Nat) (l : List It) (nm : ByteArray) (by_ : Nat) (hb : by_ < 18446744073709551616) (hnm : nm.size ≤ 140737488355328) (w : World) (T : Tp w base g room seen A n c l) (I : Inv room seen l) :
    Calls Tryz.prog 61 #[.pointer (some ⟨g, 0, none⟩), .string nm, .int .u64 by_] w fun e w' => e = .returned (.int .i64 (addE seen nm by_)) ∧ ∃ A' n' c', Tp w' base g room (stepS seen nm by_) A' n' c' (stepT room seen l nm by_) ∧
      Only w w' (mine g (.slice A n c)) ∧ RowNew w (.slice A n c) (.slice A' n' c') := by
  have hlt := T.blk.lt
  have hsn := T.sn
  have c2 : w.cell? ⟨g, 2, none⟩ = some (.int .u64 seen) := T.blk.cellAt 2 rfl
  have f2 := T.blk.frozen 2
  have hE : addE seen nm by_ = if 64 < nm.size ∨ by_ = 0 then 1 else if 4611686018427387904 - seen < by_ then 7 else 0 := rfl
  have hdo : addE seen nm by_ ≠ 0 → Tp w base g room (stepS seen nm by_) A n c (stepT room seen l nm by_) := fun h => by
    unfold stepS stepT
    rw [if_neg h, if_neg h]
    exact T
  by_cases h1 : 64 < nm.size
  · rw [if_pos (.inl h1)] at hE
    have hT := hdo (by omega)
    rw [hE]
    generalize stepS seen nm by_ = s' at *
    generalize stepT room seen l nm by_ = l' at *
    clear hdo hE
    have h1' : (64 : Int) < nm.size := by omega
    go_enter Tryz.func61, Tryz.ntmps61
    go_wp2_with fail
    go_ret
    exact ⟨rfl, A, n, c, hT, Only.refl _ _, .inl rfl⟩
  have h1' : ¬ (64 : Int) < nm.size := by omega
  by_cases h2 : by_ = 0
  · rw [if_pos (.inr h2)] at hE
    have hT := hdo (by omega)
    rw [hE]
    generalize stepS seen nm by_ = s' at *
    generalize stepT room seen l nm by_ = l' at *
    clear hdo hE
    subst h2
    go_enter Tryz.func61, Tryz.ntmps61
    go_wp2_with fail
    go_ret
    exact ⟨rfl, A, n, c, hT, Only.refl _ _, .inl rfl⟩
  have h2' : ((by_ : Int) == 0) = false := by simp; omega
  rw [if_neg (by rw [not_or]; exact ⟨h1, h2⟩)] at hE
  by_cases h3 : 4611686018427387904 - seen < by_
  · rw [if_pos h3] at hE
    have hT := hdo (by omega)
    rw [hE]
    generalize stepS seen nm by_ = s' at *
    generalize stepT room seen l nm by_ = l' at *
    clear hdo hE
    have h3' : (4611686018427387904 : Int) - seen < by_ := by omega
    have h4 : IntKind.u64.wrap (4611686018427387904 - seen) = (4611686018427387904 : Int) - seen := by simp [IntKind.wrap, IntKind.bits, IntKind.signed]; omega
    go_enter Tryz.func61, Tryz.ntmps61
    go_wp2_with fail
    go_ret
    exact ⟨rfl, A, n, c, hT, Only.refl _ _, .inl rfl⟩
  rw [if_neg h3] at hE
  have h3' : ¬ (4611686018427387904 : Int) - seen < by_ := by omega
  have h4 : IntKind.u64.wrap (4611686018427387904 - seen) = (4611686018427387904 : Int) - seen := by simp [IntKind.wrap, IntKind.bits, IntKind.signed]; omega
  have h5 : IntKind.u64.wrap ((seen : Int) + by_) = ((seen + by_ : Nat) : Int) := by simp [IntKind.wrap, IntKind.bits, IntKind.signed]; omega
  have hs : stepS seen nm by_ = seen + by_ := if_pos hE
  have hl : stepT room seen l nm by_ = addT room l nm by_ := if_pos hE
  rw [hE, hs, hl]
  obtain ⟨T1, O1⟩ := T.seen' (seen + by_) (by omega)
  have hsum := Lib.hid I.sum
  have HA : Hid (∀ l', l' = addT room l nm by_ → l' = addT room l nm by_) := Lib.hid (fun _ h => h)
  clear hdo hE hs hl I
  generalize haT : addT room l nm by_ = aT
  have HT := Lib.hid haT
  clear haT HA
  go_enter Tryz.func61, Tryz.ntmps61
  go_wp2_with (first
    | (go_at_call 80
       refine (place_call base g room (seen + by_) A n c l nm _ T1).mono ?_
       rintro e w1 ⟨k, ov, r, n', c', l', rfl, T2, hk, hset, hmany, O2, hN⟩
       obtain ⟨r', hr', _, hrlt, hrc, hcell⟩ := T2.its.row (by omega)
       cases hr'
       obtain ⟨x0, x1, x2⟩ := hcell k hk
       have cg : w1.cell? ⟨g, 0, none⟩ = some (.slice (some ⟨r, 0, none⟩) n' c') := T2.blk.cellAt 0 rfl
       have hn16 : n' ≤ 16 := by have := T2.ln; have := T2.rm; omega
       have hkn : (k : Int) < n' := by omega
       have fz := T2.its.own.frozenAt (k * 3 + 1)
       have hm2 : (l'.getD k default).many + by_ ≤ 4611686018427387904 := by have := hsum.out; omega
       have hset2 := hset by_
       rw [HT.out] at hset2
       obtain ⟨T3, O3⟩ := T2.many' k hk ((l'.getD k default).many + by_) hm2
       rw [hset2] at T3
       have HS := Lib.hid hset
       clear hset hset2 hcell
       generalize (l'.getD k default).many = wm at *
       have h6 : IntKind.u64.wrap ((wm : Int) + by_) = ((wm + by_ : Nat) : Int) := by simp [IntKind.wrap, IntKind.bits, IntKind.signed]; omega))
  go_ret
  refine ⟨rfl, _, n', c', T3, ?_, ?_⟩
  · refine ((O1.mono (S' := mine g (.slice A n c)) (fun i _ h => .inl h)).trans O2).andThen O3 ?_
    intro i hi h
    subst h
    rcases hN with h | ⟨q, h, hq⟩
    · exact .inr h
    · simp only [Value.ownBlock, Option.some.injEq] at h
      simp at hq
      omega
  · rcases hN with h | ⟨q, h, hq⟩
    · exact .inl h
    · exact .inr ⟨q, h, by simpa using hq⟩
end Go.Proofs.YtapiehddcdnadaaGreatDoor
namespace Go.Proofs.YtapiehddcdnadaaGreatDoor
open Go.RowKit
set_option linter.unusedVariables false
set_option linter.unusedSimpArgs false

theorem nan64 (x : Int) (w : World) : Calls Tryz.prog 105 #[.int .u64 x] w fun e w' => e = .returned (.bool false) ∧ w' = w := by
  have h1 : (x == x) = true := by simp
  go_enter Tryz.func105, Tryz.ntmps105
  go_wp2_with fail
  go_ret
  exact ⟨by simp, rfl⟩
def cmpN (a b : Nat) : Int := if a < b then -1 else if b < a then 1 else 0
theorem cmp64 (a b : Nat) (w : World) : Calls Tryz.prog 91 #[.int .u64 a, .int .u64 b] w fun e w' => e = .returned (.int .i64 (cmpN a b)) ∧ w' = w := by
  rcases Nat.lt_trichotomy a b with h | h | h
  · have e : cmpN a b = -1 := if_pos h
    rw [e]
    clear e
    have h1 : (a : Int) < b := by omega
    go_enter Tryz.func91, Tryz.ntmps91
    go_wp2_with (first | (go_at_call 105; refine (nan64 _ _).mono ?_; rintro e w1 ⟨rfl, rfl⟩))
    go_ret
    exact ⟨rfl, rfl⟩
  · subst h
    have e : cmpN a a = 0 := by unfold cmpN; simp
    rw [e]
    clear e
    have h1 : ¬ (a : Int) < a := by omega
    go_enter Tryz.func91, Tryz.ntmps91
    go_wp2_with (first | (go_at_call 105; refine (nan64 _ _).mono ?_; rintro e w1 ⟨rfl, rfl⟩))
    go_ret
    exact ⟨rfl, rfl⟩
  · have e : cmpN a b = 1 := by unfold cmpN; rw [if_neg (by omega), if_pos h]
    rw [e]
    clear e
    have h1 : ¬ (a : Int) < b := by omega
    have h2 : (b : Int) < a := by omega
    go_enter Tryz.func91, Tryz.ntmps91
    go_wp2_with (first | (go_at_call 105; refine (nan64 _ _).mono ?_; rintro e w1 ⟨rfl, rfl⟩))
    go_ret
    exact ⟨rfl, rfl⟩

/-- An item's value. -/
def itV (x : It) : Value := .agg #[.string x.name, .int .u64 x.many, .int .u64 x.over]
theorem Blk.put3 {w : World} {g : Nat} {t : TypeId} {a b c : Value} (h : Blk w g t #[a, b, c]) (x y z : Value) : Blk (((w.setCell ⟨g, 0, none⟩ x).setCell ⟨g, 1, none⟩ y).setCell ⟨g, 2, none⟩ z) g t #[x, y, z] := ((h.put 0 x).put 1 y).put 2 z
theorem Blk.froz3 {w : World} {g : Nat} {t : TypeId} {cs : Array Value} (h : Blk w g t cs) (x y : Value) : w.frozen? ⟨g, 0, none⟩ = false ∧ (w.setCell ⟨g, 0, none⟩ x).frozen? ⟨g, 1, none⟩ = false ∧ ((w.setCell ⟨g, 0, none⟩ x).setCell ⟨g, 1, none⟩ y).frozen? ⟨g, 2, none⟩ = false := ⟨h.frozen 0, (h.put 0 x).frozen 1, ((h.put 0 x).put 1 y).frozen 2⟩

end Go.Proofs.YtapiehddcdnadaaGreatDoor
namespace Go.Proofs.YtapiehddcdnadaaGreatDoor
open Go.RowKit
set_option linter.unusedVariables false
set_option linter.unusedSimpArgs false

theorem fldI_1 (a : ByteArray) (b c : Int) (w : World) : (Instr.field 75 (.agg #[.string a, .int .u64 b, .int .u64 c]) 1).run Tryz.prog w = .ok (.int .u64 b) w := by kernel_rfl
attribute [local go_sem] fldI_1
theorem new_no (k : Int) (hk : k < 1 ∨ 16 < k) (w : World) : Calls Tryz.prog 31 #[.int .i64 k] w fun e w' => e = .returned (.tuple #[.pointer none, .int .i64 1]) ∧ w' = w := by
  by_cases h : k < 1
  · clear hk
    go_enter Tryz.func31, Tryz.ntmps31
    go_wp2_with fail
    go_ret2
    exact ⟨rfl, rfl⟩
  · have h2 : 16 < k := by omega
    clear hk
    go_enter Tryz.func31, Tryz.ntmps31
    go_wp2_with fail
    go_ret2
    exact ⟨rfl, rfl⟩
theorem new_yes (k : Nat) (h0 : 1 ≤ k) (h1 : k ≤ 16) (base : Nat) (w : World) (hb : base ≤ w.heap.size) : Calls Tryz.prog 31 #[.int .i64 k] w fun e w' => e = .returned (.tuple #[.pointer (some ⟨w.heap.size, 0, none⟩), .int .i64 0]) ∧ Tp w' base w.heap.size k 0 none 0 0 [] ∧ Below w.heap.size w w' ∧ w.heap.size < w'.heap.size := by
  have a1 : ¬ (k : Int) < 1 := by omega
  have a2 : ¬ (16 : Int) < k := by omega
  go_enter Tryz.func31, Tryz.ntmps31
  go_wp2_with fail
  go_ret2
  exact ⟨rfl, ⟨Blk.new w _ _, Its.nil, hb, ⟨h0, h1⟩, Nat.zero_le _, Nat.zero_le _, fun x hx => by cases hx⟩, balloc (Below.refl _ _) _, by simp⟩
theorem seen_call {base g room seen : Nat} {A : Option Addr} {n c : Nat} {l : List It} {w : World} (T : Tp w base g room seen A n c l) :
    Calls Tryz.prog 49 #[.pointer (some ⟨g, 0, none⟩)] w fun e w' => e = .returned (.int .u64 seen) ∧ w' = w := by
  have c2 : w.cell? ⟨g, 2, none⟩ = some (.int .u64 seen) := T.blk.cellAt 2 rfl
  have hlt := T.blk.lt
  go_enter Tryz.func49, Tryz.ntmps49
  go_wp2_with fail
  go_ret
  exact ⟨rfl, rfl⟩
theorem least_min {l : List It} {x : It} (hx : x ∈ l) (h : ∀ y ∈ l, x.many ≤ y.many) : x.many = (l.getD (worst l) default).many := by
  have hl : l ≠ [] := fun e => by subst e; cases hx
  have h1 := worst_min l x hx
  have h2 := h _ (worstI_mem hl)
  unfold worstI at h2
  omega
end Go.Proofs.YtapiehddcdnadaaGreatDoor
namespace Go.Proofs.YtapiehddcdnadaaGreatDoor
open Go.RowKit
set_option linter.unusedVariables false
set_option linter.unusedSimpArgs false

theorem nanS (x : ByteArray) (w : World) : Calls Tryz.prog 106 #[.string x] w fun e w' => e = .returned (.bool false) ∧ w' = w := by
  have h1 : (x.toList == x.toList) = true := by simp
  go_enter Tryz.func106, Tryz.ntmps106
  go_wp2_with fail
  go_ret
  exact ⟨by simp, rfl⟩
def cmpS (a b : ByteArray) : Int := if a.data.toList < b.data.toList then -1 else if b.data.toList < a.data.toList then 1 else 0
theorem cmpStr (a b : ByteArray) (w : World) : Calls Tryz.prog 92 #[.string a, .string b] w fun e w' => e = .returned (.int .i64 (cmpS a b)) ∧ w' = w := by
  by_cases h : a.data.toList < b.data.toList
  · have e : cmpS a b = -1 := if_pos h
    rw [e]
    have h1 : Op.bytesLess a.toList b.toList = true := by rw [less_iff]; simpa using h
    clear e
    go_enter Tryz.func92, Tryz.ntmps92
    go_wp2_with (first | (go_at_call 106; refine (nanS _ _).mono ?_; rintro e w1 ⟨rfl, rfl⟩))
    go_ret
    exact ⟨rfl, rfl⟩
  · have h1 : Op.bytesLess a.toList b.toList = false := by rw [less_iff]; simpa using h
    by_cases h2 : b.data.toList < a.data.toList
    · have e : cmpS a b = 1 := by unfold cmpS; rw [if_neg h, if_pos h2]
      rw [e]
      have hne : (a.toList == b.toList) = false := by
        rw [Lib.toList_data, Lib.toList_data]
        simp only [beq_eq_false_iff_ne]
        intro e2
        rw [e2] at h2
        exact l_irr _ h2
      clear e
      go_enter Tryz.func92, Tryz.ntmps92
      go_wp2_with (first | (go_at_call 106; refine (nanS _ _).mono ?_; rintro e w1 ⟨rfl, rfl⟩))
      go_ret
      exact ⟨rfl, rfl⟩
    · have e : cmpS a b = 0 := by unfold cmpS; rw [if_neg h, if_neg h2]
      rw [e]
      have hne : (a.toList == b.toList) = true := by
        rw [Lib.toList_data, Lib.toList_data]
        simp only [beq_iff_eq]
        exact l_an h h2
      clear e
      go_enter Tryz.func92, Tryz.ntmps92
      go_wp2_with (first | (go_at_call 106; refine (nanS _ _).mono ?_; rintro e w1 ⟨rfl, rfl⟩))
      go_ret
      exact ⟨rfl, rfl⟩
theorem or_call (g : Nat) (a b : Int) (w : World) (hg : Blk w g 3 #[.int .i64 a, .int .i64 b]) : Calls Tryz.prog 90 #[.slice (some ⟨g, 0, none⟩) 2 2] w fun e w' => e = .returned (.int .i64 (if a = 0 then b else a)) ∧ w' = w := by
  have c0 : w.cell? ⟨g, 0, none⟩ = some (.int .i64 a) := hg.cellAt 0 rfl
  have c1 : w.cell? ⟨g, 1, none⟩ = some (.int .i64 b) := hg.cellAt 1 rfl
  have hlt := hg.lt
  by_cases h : a = 0
  · subst h
    rw [if_pos rfl]
    by_cases h2 : b = 0
    · subst h2
      go_enter Tryz.func90, Tryz.ntmps90
      go_wp2_with fail
      go_loopw [8] (fun i wr => ∃ j : Nat, j ≤ 2 ∧ i = .int .i64 j ∧ wr = w) (fun i _ => 2 - (intOf i).toNat)
      case atStart => exact ⟨0, by omega, rfl, rfl⟩
      case round =>
        obtain ⟨j, hj, rfl, rfl⟩ := hrel
        by_cases hj2 : j < 2
        · have hj3 : (j : Int) < 2 := by omega
          have cj : wr.cell? ⟨g, j, none⟩ = some (.int .i64 0) := by
            rcases Nat.lt_or_ge j 1 with h | h
            · rw [show j = 0 by omega]; exact c0
            · rw [show j = 1 by omega]; exact c1
          clear c0 c1
          go_wp2_with fail
          go_roundw
          case rel => exact ⟨j + 1, by omega, by go_num, by first | trivial | rfl⟩
          case measure => simp [intOf]; omega
        · obtain rfl : j = 2 := by omega
          go_wp2_with fail
          go_ret
          exact ⟨rfl, rfl⟩
    · have hb : (b == 0) = false := by simpa using h2
      go_enter Tryz.func90, Tryz.ntmps90
      go_wp2_with fail
      go_loopw [8] (fun i wr => ∃ j : Nat, j ≤ 1 ∧ i = .int .i64 j ∧ wr = w) (fun i _ => 2 - (intOf i).toNat)
      case atStart => exact ⟨0, by omega, rfl, rfl⟩
      case round =>
        obtain ⟨j, hj, rfl, rfl⟩ := hrel
        by_cases hj2 : j < 1
        · obtain rfl : j = 0 := by omega
          go_wp2_with fail
          go_roundw
          case rel => exact ⟨1, by omega, by go_num, by first | trivial | rfl⟩
          case measure => simp [intOf]
        · obtain rfl : j = 1 := by omega
          go_wp2_with fail
          go_ret
          exact ⟨rfl, rfl⟩
  · rw [if_neg h]
    have hb : (a == 0) = false := by simpa using h
    go_enter Tryz.func90, Tryz.ntmps90
    go_wp2_with fail
    go_loopw [8] (fun i wr => i = .int .i64 0 ∧ wr = w) (fun i _ => 2 - (intOf i).toNat)
    case atStart => exact ⟨rfl, rfl⟩
    case round =>
      obtain ⟨rfl, rfl⟩ := hrel
      go_wp2_with fail
      go_ret
      exact ⟨rfl, rfl⟩

/-- Draws and new blocks alone. -/
def Lays (w w' : World) : Prop := ∃ q os', w' = Go.Sort.grow (w.drewN q) os'
theorem Lays.refl (w : World) : Lays w w := ⟨0, #[], by simp [Go.Sort.grow, World.drewN]⟩
theorem Lays.alloc {w w' : World} (h : Lays w w') (o : Obj) : Lays w (w'.alloc o) := by
  obtain ⟨q, os, rfl⟩ := h
  exact ⟨q, os ++ #[o], by rw [Go.Sort.alloc_eq_grow, Go.Sort.grow_grow]⟩
theorem Lays.drew {w w' : World} (h : Lays w w') : Lays w w'.drew := by
  obtain ⟨q, os, rfl⟩ := h
  exact ⟨q + 1, os, rfl⟩
theorem Lays.below {w w' : World} (h : Lays w w') : Below w.heap.size w w' := by
  obtain ⟨q, os, rfl⟩ := h
  exact ⟨rfl, rfl, rfl, by simp [Go.Sort.grow, World.drewN], fun i hi => by
    show (w.heap ++ os)[i]? = _
    rw [Array.getElem?_append_left hi]⟩
theorem cmpI_eq (a b : It) : (if cmpN b.many a.many = 0 then cmpS a.name b.name else cmpN b.many a.many) = cmpI a b := by
  unfold cmpN cmpS cmpI
  by_cases h1 : b.many < a.many
  · simp [h1]
  · by_cases h2 : a.many < b.many <;> simp [h1, h2]

end Go.Proofs.YtapiehddcdnadaaGreatDoor
namespace Go.Proofs.YtapiehddcdnadaaGreatDoor
open Go.RowKit
set_option linter.unusedVariables false
set_option linter.unusedSimpArgs false

set_option maxRecDepth 100000 in
set_option maxHeartbeats 4000000 in
theorem order_call (a b : It) (w : World) : Calls Tryz.prog 75 #[.agg #[.string a.name, .int .u64 a.many, .int .u64 a.over], .agg #[.string b.name, .int .u64 b.many, .int .u64 b.over]] w fun e w' => e = .returned (.int .i64 (cmpI a b)) ∧ Lays w w' := by
  have h33 := fun W => cmp64 b.many a.many W
  have h40 := fun W => cmpStr a.name b.name W
  rw [← cmpI_eq]
  generalize cmpN b.many a.many = x at *
  generalize cmpS a.name b.name = y at *
  have h39 := fun g W h => or_call g x y W h
  have L2 : ∀ o1 o2, Lays w ((w.alloc o1).alloc o2) := fun o1 o2 => ((Lays.refl w).alloc _).alloc _
  generalize (if x = 0 then y else x) = r at *
  go_enter Tryz.func75, Tryz.ntmps75
  go_wp2_with fail
  have B1 := (Blk.new w 75 #[.string a.name, .int .u64 a.many, .int .u64 a.over]).alloc (.cells #[.string b.name, .int .u64 b.many, .int .u64 b.over] 75)
  have B2 : Blk ((w.alloc (.cells #[.string a.name, .int .u64 a.many, .int .u64 a.over] 75)).alloc (.cells #[.string b.name, .int .u64 b.many, .int .u64 b.over] 75)) (w.heap.size + 1) _ _ := Blk.newAt (by simp)
  have L := L2 (.cells #[.string a.name, .int .u64 a.many, .int .u64 a.over] 75) (.cells #[.string b.name, .int .u64 b.many, .int .u64 b.over] 75)
  generalize ((w.alloc (.cells #[.string a.name, .int .u64 a.many, .int .u64 a.over] 75)).alloc (.cells #[.string b.name, .int .u64 b.many, .int .u64 b.over] 75)) = W at *
  have c0 : W.cell? ⟨w.heap.size, 0, none⟩ = some (.string a.name) := B1.cellAt 0 rfl
  have c1 : W.cell? ⟨w.heap.size, 1, none⟩ = some (.int .u64 a.many) := B1.cellAt 1 rfl
  have d0 : W.cell? ⟨w.heap.size + 1, 0, none⟩ = some (.string b.name) := B2.cellAt 0 rfl
  have d1 : W.cell? ⟨w.heap.size + 1, 1, none⟩ = some (.int .u64 b.many) := B2.cellAt 1 rfl
  have l1 := B1.lt
  have l2 := B2.lt
  clear L2
  go_region_held3 (fun w' => w'.cell? ⟨w.heap.size, 0, none⟩ = some (.string a.name) ∧ w'.cell? ⟨w.heap.size, 1, none⟩ = some (.int .u64 a.many) ∧ w'.cell? ⟨w.heap.size + 1, 0, none⟩ = some (.string b.name) ∧ w'.cell? ⟨w.heap.size + 1, 1, none⟩ = some (.int .u64 b.many)) (first | exact ⟨c0, c1, d0, d1⟩ | exact ⟨(B1.alloc _).cellAt 0 rfl, (B1.alloc _).cellAt 1 rfl, (B2.alloc _).cellAt 0 rfl, (B2.alloc _).cellAt 1 rfl⟩)
    (first
      | (go_at_call 91; refine (h33 _).mono ?_; rintro e w1 ⟨rfl, rfl⟩)
      | (go_at_call 92; refine (h40 _).mono ?_; rintro e w1 ⟨rfl, rfl⟩)
      | (go_at_call 90; refine (h39 _ _ ?_).mono ?_; exact (Blk.new _ _ _).drew; rintro e w1 ⟨rfl, rfl⟩)
      | (go_at_call 90; refine (h39 _ _ ?_).mono ?_; exact (Blk.new _ _ _); rintro e w1 ⟨rfl, rfl⟩))
  all_goals
    go_wp2_with fail
    go_ret
    exact ⟨rfl, by first | exact (L.alloc _).drew | exact (L.drew).alloc _⟩
end Go.Proofs.YtapiehddcdnadaaGreatDoor
namespace Go.Proofs.YtapiehddcdnadaaGreatDoor
open Go.RowKit
set_option linter.unusedVariables false
set_option linter.unusedSimpArgs false

theorem encI_len (x : It) : (encI x).length = 3 := rfl
theorem flatK_flat (d : Array It) : (Go.Sort.flatK encI 3 d).toList = flat d.toList := by
  refine List.ext_getElem? (fun t => ?_)
  by_cases ht : t < d.size * 3
  · have h1 := Go.Sort.get_flatK encI 3 d t ht
    have h2 := flat_get d.toList (t / 3) (t % 3) (by simp; omega) (by omega)
    have h3 : t / 3 * 3 + t % 3 = t := by omega
    rw [h3] at h2
    rw [h2]
    have h4 : d.toList.getD (t / 3) default = d[t / 3]! := by
      rw [it_get _ _ (by simp; omega), getElem!_pos d (t / 3) (by omega)]; simp
    rw [h4, Array.getElem?_toList, Array.getElem?_eq_getElem (by rw [Go.Sort.size_flatK]; exact ht)]
    rw [getElem!_pos _ t (by rw [Go.Sort.size_flatK]; exact ht)] at h1
    rw [h1]
    have h5 : t % 3 < (encI d[t / 3]!).length := by rw [encI_len]; omega
    rw [getElem!_pos (encI d[t / 3]!) (t % 3) h5, List.getElem?_eq_getElem h5]
  · rw [List.getElem?_eq_none (by simp; omega), List.getElem?_eq_none (by rw [flat_len]; simp; omega)]
theorem take_putCellsI (cur F : Array Value) (h : F.size ≤ cur.size) : (Go.Sort.putCells id 0 F cur).toList.take F.size = F.toList := by
  apply List.ext_getElem?
  intro j
  by_cases hj : j < F.size
  · rw [List.getElem?_take_of_lt hj, Array.getElem?_toList]
    simp [Go.Sort.putCells, hj, show j < cur.size by omega]
  · rw [List.getElem?_take_eq_none (by omega), List.getElem?_eq_none (by simp; omega)]
theorem heap_sortedI {w : World} {g n : Nat} {os : Array Obj} {cur : Array Value} {e : TypeId} {fr : Nat × Nat} (d : Array It) (hb : w.heap[g]? = some (.cells cur e fr)) :
    (sortWorldK encI 3 w g 0 n d os).heap[g]? = some (.cells (Go.Sort.putCells id 0 (Go.Sort.flatK encI 3 d) cur) e fr) := by
  have hg : g < w.heap.size := (Array.getElem?_eq_some_iff.1 hb).1
  unfold sortWorldK Go.Sort.putRowK
  rw [Go.Sort.heap_grow_old _ _ (by simpa using hg)]
  simp [Go.Sort.putRow, Go.Sort.mapBlock, Go.Sort.ahead, Array.getElem?_modify, hb, Go.Sort.onCells]
theorem grownBy_sortedI {w : World} {g n : Nat} {os : Array Obj} (d : Array It) : w.grownBy (sortWorldK encI 3 w g 0 n d os) (some g) := by
  refine ⟨rfl, rfl, rfl, by simp [sortWorldK, Go.Sort.putRowK], fun k hk hne => ?_⟩
  unfold sortWorldK Go.Sort.putRowK
  rw [Go.Sort.heap_grow_old _ _ (by simpa using hk)]
  have : g ≠ k := fun e => hne (by rw [e])
  simp [Go.Sort.putRow, Go.Sort.mapBlock, Go.Sort.ahead, Array.getElem?_modify, this]
theorem own_sorted {w : World} {base g cap n m : Nat} {os : Array Obj} {xs : List Value} {d : Array It} (h : w.ownsRow base 75 3 (.slice (some ⟨g, 0, none⟩) n cap) n xs) (hd : d.size = n) :
    (sortWorldK encI 3 w g 0 m d os).ownsRow base 75 3 (.slice (some ⟨g, 0, none⟩) n cap) n (flat d.toList) := by
  refine ⟨by rw [flat_len]; simp [hd], ?_⟩
  rcases h.2 with ⟨h', _⟩ | ⟨g', cap', cur, h', hb, hg, hnc, hcm, hcs, htake⟩
  · simp at h'
  · simp only [Value.slice.injEq, Option.some.injEq, Addr.mk.injEq, and_true, true_and] at h'
    obtain ⟨rfl, rfl⟩ := h'
    refine .inr ⟨g, cap, _, rfl, hb, heap_sortedI d hg, hnc, hcm, by simpa [Go.Sort.putCells] using hcs, ?_⟩
    have h3 : n * 3 = (Go.Sort.flatK encI 3 d).size := by rw [Go.Sort.size_flatK, hd]
    have h4 : n * 3 ≤ cap * 3 := Nat.mul_le_mul_right 3 hnc
    rw [h3, take_putCellsI _ _ (by omega), flatK_flat]
theorem holds_own {w : World} {base g cap n : Nat} {l : List It} (h : Its w base (some ⟨g, 0, none⟩) n cap l) : Go.Sort.HoldsK encI 3 w g 0 l.toArray := by
  intro j hj
  rw [Go.Sort.size_flatK] at hj
  have hf := h.own.frozenAt j
  have hc := h.own.cells (g := g) rfl
  rw [Nat.zero_add]
  refine ⟨?_, hf⟩
  have h1 : j < (Go.Sort.flatK encI 3 l.toArray).size := by rw [Go.Sort.size_flatK]; exact hj
  have h2 := hc j ((Go.Sort.flatK encI 3 l.toArray)[j]!) (by
    have := flatK_flat l.toArray
    simp only at this
    rw [← this, Array.getElem?_toList, Array.getElem?_eq_getElem h1, getElem!_pos _ j h1])
  rw [addr_add, Nat.zero_add] at h2
  exact h2
theorem told_of {l : List It} {d' : Array It} (hp : Go.Sort.PermIn 0 l.toArray.size l.toArray d') (hs : Go.Sort.SortedIn (ltOf cmpI) 0 l.toArray.size d') : Told l d'.toList ∧ d'.size = l.length := by
  obtain ⟨h1, _, h3⟩ := hp
  have h1' : d'.size = l.length := by simpa using h1
  refine ⟨⟨?_, ?_⟩, h1'⟩
  · have e1 : d'.extract 0 l.toArray.size = d' := by rw [← h1]; simp
    have e2 : l.toArray.extract 0 l.toArray.size = l.toArray := by simp
    rw [e1, e2] at h3
    simpa using h3
  · rw [List.pairwise_iff_getElem]
    intro i j hi hj hij
    have := hs i j (Nat.zero_le _) hij (by simp at hj ⊢; omega)
    simp only [Array.length_toList] at hi hj
    unfold ltOf at this
    rw [cmpI_lt, getElem!_pos d' i hi, getElem!_pos d' j hj] at this
    simpa using this
theorem swoI : Go.Sort.SWO (ltOf cmpI) where
  irrefl x := by unfold ltOf; rw [cmpI_lt]; exact ahead_irr x
  trans x y z h1 h2 := by unfold ltOf at *; rw [cmpI_lt] at *; exact ahead_tr x y z h1 h2
  ntrans x y z h1 h2 := by unfold ltOf at *; rw [cmpI_lt] at *; exact ahead_nt x y z h1 h2
end Go.Proofs.YtapiehddcdnadaaGreatDoor
namespace Go.Proofs.YtapiehddcdnadaaGreatDoor
open Go.RowKit
set_option linter.unusedVariables false
set_option linter.unusedSimpArgs false

theorem flat_one (l : List It) : ∀ u ∈ flat l, u.oneCell' = true := by
  intro u hu
  unfold flat at hu
  obtain ⟨x, _, hx⟩ := List.mem_flatMap.1 hu
  simp only [encI, List.mem_cons, List.not_mem_nil, or_false] at hx
  rcases hx with rfl | rfl | rfl <;> rfl
theorem Its.cells {w : World} {base g n c : Nat} {l : List It} (h : Its w base (some ⟨g, 0, none⟩) n c l) : ∀ j u, (flat l)[j]? = some u → w.cell? ⟨g, 0 + j, none⟩ = some u := by
  intro j u hu
  have := h.own.cells (g := g) rfl j u hu
  rwa [addr_add] at this

theorem clone_call (base : Nat) (A : Option Addr) (n c : Nat) (l : List It) (w : World) (T : Its w base A n c l) (hn16 : n ≤ 16) :
    Calls Tryz.prog 73 #[.slice A n c] w fun e w' => ∃ A' c', e = .returned (.slice A' n c') ∧ Its w' w.heap.size A' n c' l ∧ Below w.heap.size w w' := by
  have hln := T.len
  rcases T.own.2 with ⟨h, h0⟩ | ⟨g, cap, cur, h, hb, hg, hnc, hcm, hcs, ht⟩
  · injection h with h1 h2 h3
    subst h1 h2 h3
    have hcon := AnyE.slices_Clone_nil Tryz.cloneIt 0 0 w
    change Calls Tryz.prog 73 _ _ _ at hcon
    refine hcon.mono ?_
    rintro e w1 ⟨rfl, rfl⟩
    have hl : l = [] := List.eq_nil_of_length_eq_zero hln
    subst hl
    exact ⟨none, 0, rfl, ⟨World.ownsRow_nil _ _ _ 3⟩, Below.refl _ _⟩
  · injection h with h1 h2 h3
    subst h1
    obtain ⟨i0, hi0, hz0, hz1, hz2⟩ := info_parts info_item
    have hcon := AnyE.slices_Clone Tryz.cloneIt i0 _ 3 32 hi0 hz0 hz1 hz2 rfl (by omega) Tryz.sizeOf75 g 0 n c (flat l) w (by rw [flat_len, hln]) (by simp only [maxLen]; omega) (by omega) T.cells (flat_one l)
    change Calls Tryz.prog 73 _ _ _ at hcon
    refine hcon.mono ?_
    rintro e w1 ⟨v', rfl, hown, hnil, hB⟩
    have hown' : w1.ownsRow w.heap.size 75 3 v' n (flat l) := hown
    obtain ⟨A', c', rfl⟩ := own_form hown'
    rcases hown'.2 with ⟨h, h0⟩ | ⟨g2, cap2, cur2, h, hr⟩
    · exact absurd h hnil
    · simp only [Value.slice.injEq] at h
      obtain ⟨h1, h2, h3⟩ := h
      subst h1 h3
      exact ⟨_, _, rfl, ⟨hown'⟩, hB⟩

theorem cmpLays (blk size : Nat) (w : World) : CmpLays Tryz.prog 75 #[] encI 3 cmpI blk 0 size w :=
  fun _ _ _ _ x y => order_call x y _

theorem sort_call (base : Nat) (A : Option Addr) (n c : Nat) (l : List It) (w : World) (T : Its w base A n c l) (hn16 : n ≤ 16) :
    Calls Tryz.prog 74 #[.slice A n c, .func (.func 75) #[] #[]] w fun e w' => e = .returned (.tuple #[]) ∧ ∃ s, Told l s ∧ Its w' base A n c s ∧ w.grownBy w' (Value.ownBlock (.slice A n c)) := by
  have hln := T.len
  by_cases h0 : n = 0
  · subst h0
    have hcon := AnyF.slices_SortFunc_none Tryz.sortIt A c (.func (.func 75) #[] #[]) w
    change Calls Tryz.prog 74 _ _ _ at hcon
    refine hcon.mono ?_
    rintro e w1 ⟨rfl, rfl⟩
    have hl : l = [] := List.eq_nil_of_length_eq_zero hln
    subst hl
    exact ⟨rfl, [], Told.nil, T, World.grownBy.refl _ _⟩
  · obtain ⟨r, rfl, hr0, hrlt, hrc, hcell⟩ := T.row (by omega)
    have eg : ∀ args w, (callFunc 75 args).run Tryz.prog w = .ok (.enter 75 args) w := enters_of Tryz.func75 (by kernel_rfl) rfl
    have hcon := AnyQ.slices_SortFunc Tryz.sortIt 3 Tryz.isAgg75 Tryz.sizeOf75 encI (fun _ => rfl) (fun x v hv => by simp [encI] at hv; rcases hv with rfl | rfl | rfl <;> rfl) cmpI swoI 75 #[] r 0 c l.toArray w eg (cmpLays r _ w) (holds_own T) hrlt (by simp; omega)
    change Calls Tryz.prog 74 _ _ _ at hcon
    have hsz : (l.toArray.size : Int) = n := by simp [hln]
    have hsz2 : l.toArray.size = n := by simp [hln]
    rw [hsz2] at hcon
    refine hcon.mono ?_
    rintro e w1 ⟨rfl, d', m, os, hp, hs, rfl⟩
    rw [← hsz2] at hp hs
    obtain ⟨ht, hd⟩ := told_of hp hs
    exact ⟨rfl, d'.toList, ht, ⟨own_sorted T.own (by omega)⟩, grownBy_sortedI d'⟩

set_option maxRecDepth 100000 in
theorem items_call {base g room seen : Nat} {A : Option Addr} {n c : Nat} {l : List It} {w : World} (T : Tp w base g room seen A n c l) :
    Calls Tryz.prog 50 #[.pointer (some ⟨g, 0, none⟩)] w fun e w' => ∃ A' c' s, e = .returned (.slice A' n c') ∧ Told l s ∧ Its w' w.heap.size A' n c' s ∧ Below w.heap.size w w' := by
  have c0 : w.cell? ⟨g, 0, none⟩ = some (.slice A n c) := T.blk.cellAt 0 rfl
  have hlt := T.blk.lt
  have hn16 : n ≤ 16 := by have := T.ln; have := T.rm; omega
  go_enter Tryz.func50, Tryz.ntmps50
  go_wp2_with (first
    | (go_at_call 73
       refine (clone_call base A n c l w T.its hn16).mono ?_
       rintro e w1 ⟨A', c', rfl, hI, hB⟩)
    | (go_at_call 74
       refine (sort_call w.heap.size A' n c' l w1 hI hn16).mono ?_
       rintro e w2 ⟨rfl, s, hT, hI2, hG⟩))
  go_ret
  exact ⟨A', c', s, rfl, hT, hI2, bgrown hB hG (fun k hk => (hI.own.lt k hk).1)⟩
end Go.Proofs.YtapiehddcdnadaaGreatDoor
