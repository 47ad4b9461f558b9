/- Add. -/
import Derived.Test.YtapiehddcdnadaaDoorTopC
import Derived.Test.YtapiehddcdnadaaDoorTopO
namespace Go.Proofs.YtapiehddcdnadaaDoor
open Go.RowKit
set_option linter.unusedVariables false
set_option linter.unusedSimpArgs false

theorem flat_many (l : List It) (i : Nat) (v : Nat) (hi : i < l.length) : (flat l).set (i * 3 + 1) (.int .u64 v) = flat (l.set i ⟨(l.getD i default).name, v, (l.getD i default).over⟩) := by
  induction l generalizing i with
  | nil => simp at hi
  | cons y l ih =>
    cases i with
    | zero => simp [flat, encI]
    | succ i =>
      have h := ih i (by simpa using hi)
      rw [List.getD_cons_succ]
      show (encI y ++ flat l).set _ _ = encI y ++ flat (l.set i _)
      rw [← h, List.set_append_right _ _ (by simp [encI]; omega)]
      have e1 : (i + 1) * 3 + 1 - (encI y).length = i * 3 + 1 := by show (i + 1) * 3 + 1 - 3 = _; omega
      rw [e1]

/-- What an addition answers. -/
def addE (seen : Nat) (nm : ByteArray) (by_ : Nat) : Nat := if 64 < nm.size ∨ by_ = 0 then 1 else if 4611686018427387904 - seen < by_ then 7 else 0
/-- The items behind a deed that is let in. -/
def stepT (room seen : Nat) (l : List It) (nm : ByteArray) (by_ : Nat) : List It := if addE seen nm by_ = 0 then addT room l nm by_ else l
def stepS (seen : Nat) (nm : ByteArray) (by_ : Nat) : Nat := if addE seen nm by_ = 0 then seen + by_ else seen

/-- What holds of the items. -/
structure Inv (room seen : Nat) (l : List It) : Prop where
  sum : (l.map (·.many)).sum = seen
  nd : (nms l).Nodup
  len : l.length ≤ room
  sn : seen ≤ 4611686018427387904
theorem mem_le_sum {l : List It} {x : It} (h : x ∈ l) : x.many ≤ (l.map (·.many)).sum := by
  induction l with
  | nil => cases h
  | cons y l ih =>
    simp only [List.map_cons, List.sum_cons]
    rcases List.mem_cons.1 h with rfl | h
    · omega
    · have := ih h; omega
theorem addT_sum {room : Nat} {l : List It} (h0 : 0 < room) (nm : ByteArray) (n : Nat) : ((addT room l nm n).map (·.many)).sum = (l.map (·.many)).sum + n := by
  unfold addT
  cases hf : findI l nm with
  | some k =>
    obtain ⟨hk, _⟩ := findI_some hf
    have := sum_set l k ⟨(l.getD k default).name, (l.getD k default).many + n, (l.getD k default).over⟩ hk
    simp only at *
    omega
  | none =>
    simp only
    split
    · simp
    · have hl : l ≠ [] := fun e => by subst e; simp at *; omega
      have := sum_set l (worst l) ⟨nm, (l.getD (worst l) default).many + n, (l.getD (worst l) default).many⟩ (worst_lt l hl)
      simp only at *
      omega
theorem addT_len {room : Nat} {l : List It} (nm : ByteArray) (n : Nat) (h : l.length ≤ room) : (addT room l nm n).length ≤ room := by
  unfold addT
  cases findI l nm with
  | some k => simpa using h
  | none =>
    simp only
    split
    · simp; omega
    · simpa using h
theorem addT_nodup {room : Nat} {l : List It} (h : (nms l).Nodup) (nm : ByteArray) (n : Nat) : (nms (addT room l nm n)).Nodup := by
  unfold addT
  cases hf : findI l nm with
  | some k =>
    obtain ⟨hk, hn⟩ := findI_some hf
    simp only [nms, List.map_set]
    have e : (l.map (·.name.data.toList)).set k (l.getD k default).name.data.toList = l.map (·.name.data.toList) := by
      have := @List.set_getElem_self _ (l.map (·.name.data.toList)) k (by simpa using hk)
      rw [it_get l k hk]
      simpa using this
    rw [e]
    exact h
  | none =>
    have hno := findI_none hf
    simp only
    split
    · simp only [nms, List.map_append, List.map_singleton, List.nodup_append]
      refine ⟨h, by simp, fun a ha b hb e => ?_⟩
      rw [List.mem_singleton] at hb
      rw [e, hb] at ha
      exact hno ha
    · simp only [nms, List.map_set]
      exact nodup_set h hno _
theorem addE_zero {seen : Nat} {nm : ByteArray} {by_ : Nat} (h : addE seen nm by_ = 0) : nm.size ≤ 64 ∧ by_ ≠ 0 ∧ by_ ≤ 4611686018427387904 - seen := by
  unfold addE at h
  split at h
  · cases h
  · next h1 =>
    split at h
    · cases h
    · next h2 => rw [not_or] at h1; exact ⟨by omega, h1.2, by omega⟩
theorem Inv.step {room seen : Nat} {l : List It} (h : Inv room seen l) (h0 : 0 < room) (nm : ByteArray) (n : Nat) : Inv room (stepS seen nm n) (stepT room seen l nm n) := by
  unfold stepS stepT
  by_cases he : addE seen nm n = 0
  · rw [if_pos he, if_pos he]
    have := addE_zero he
    have := h.sn
    exact ⟨by rw [addT_sum h0, h.sum], addT_nodup h.nd _ _, addT_len _ _ h.len, by omega⟩
  · rw [if_neg he, if_neg he]
    exact h

/-- The row is the old one, or new. -/
def RowNew (w : World) (v v' : Value) : Prop := Value.ownBlock v' = Value.ownBlock v ∨ ∃ r, Value.ownBlock v' = some r ∧ w.heap.size ≤ r
/-- The top's own blocks. -/
def mine (g : Nat) (v : Value) : Nat → Prop := fun i => i = g ∨ some i = Value.ownBlock v

theorem Tp.seen' {w : World} {base g room seen : Nat} {A : Option Addr} {n c : Nat} {l : List It} (T : Tp w base g room seen A n c l) (s : Nat) (hs : s ≤ 4611686018427387904) :
    Tp (w.setCell ⟨g, 2, none⟩ (.int .u64 s)) base g room s A n c l ∧ Only w (w.setCell ⟨g, 2, none⟩ (.int .u64 s)) (fun i => i = g) := by
  have hg : w.grownBy (w.setCell ⟨g, 2, none⟩ (.int .u64 s)) (some g) := only_setCell (only_refl _ _) (.inl rfl) _
  refine ⟨⟨T.blk.put 2 _, ⟨T.its.own.kept hg (.inr (fun e => T.its.far T.blk (by decide) e.symm))⟩, T.g0, T.rm, T.ln, hs, T.bd⟩, ?_⟩
  exact Only.of_grown hg (fun i hi => by cases hi; rfl)
theorem Tp.many' {w : World} {base g room seen r : Nat} {n c : Nat} {l : List It} (T : Tp w base g room seen (some ⟨r, 0, none⟩) n c l) (k : Nat) (hk : k < n) (v : Nat) (hv : v ≤ 4611686018427387904) :
    Tp (w.setCell ⟨r, k * 3 + 1, none⟩ (.int .u64 v)) base g room seen (some ⟨r, 0, none⟩) n c (l.set k ⟨(l.getD k default).name, v, (l.getD k default).over⟩) ∧ Only w (w.setCell ⟨r, k * 3 + 1, none⟩ (.int .u64 v)) (fun i => i = r) := by
  have hln := T.its.len
  obtain ⟨o, hg⟩ := T.its.own.stored (k * 3 + 1) (.int .u64 v)
  refine ⟨⟨T.blk.grown hg (by simpa [Value.ownBlock] using T.its.far T.blk (by decide)), ⟨by rw [← flat_many l k v (by omega)]; exact o⟩, T.g0, T.rm, T.ln, T.sn, ?_⟩, Only.of_grown hg (fun i hi => by cases hi; rfl)⟩
  intro x hx
  rcases mem_set_it (by omega) hx with rfl | ⟨q, hq, _, rfl⟩
  · refine ⟨hv, ?_⟩
    rw [it_get l k (by omega)]
    exact (T.bd _ (List.getElem_mem _)).2
  · exact T.bd _ (List.getElem_mem _)

theorem Only.mono {w w' : World} {S S' : Nat → Prop} (h : Only w w' S) (hs : ∀ i, i < w.heap.size → S i → S' i) : Only w w' S' := ⟨h.os, h.tape, h.output, h.size, fun i hi hn => h.block i hi (fun k => hn (hs i hi k))⟩

theorem Only.andThen {w w' w1 : World} {S S' : Nat → Prop} (h : Only w w' S) (k : Only w' w1 S') (hs : ∀ i, i < w.heap.size → S' i → S i) : Only w w1 S := ⟨k.os.trans h.os, k.tape.trans h.tape, k.output.trans h.output, Nat.le_trans h.size k.size, fun i hi hn => (k.block i (Nat.lt_of_lt_of_le hi h.size) (fun x => hn (hs i hi x))).trans (h.block i hi hn)⟩

theorem place_call (base g : Nat) (room seen : Nat) (A : Option Addr) (n c : Nat) (l : List It) (nm : ByteArray) (w : World) (T : Tp w base g room seen A n c l) :
    Calls Tryd.prog 41 #[.pointer (some ⟨g, 0, none⟩), .string nm] w fun e w' => ∃ (k ov : Nat) (r n' c' : Nat) (l' : List It), e = .returned (.tuple #[.int .i64 k, .int .u64 ov]) ∧ Tp w' base g room seen (some ⟨r, 0, none⟩) n' c' l' ∧ k < n' ∧
      (∀ by_, l'.set k ⟨(l'.getD k default).name, (l'.getD k default).many + by_, (l'.getD k default).over⟩ = addT room l nm by_) ∧ (l'.getD k default).many ≤ (l.map (·.many)).sum ∧
      Only w w' (mine g (.slice A n c)) ∧ RowNew w (.slice A n c) (.slice (some ⟨r, 0, none⟩) n' c') := by
  have hln := T.its.len
  cases hf : findI l nm with
  | some k =>
    obtain ⟨hk, hn⟩ := findI_some hf
    obtain ⟨r, rfl, h1, h2, h3, h4⟩ := T.its.row (by omega)
    refine (place_found base g room seen (some ⟨r, 0, none⟩) n c l nm w T k hf).mono ?_
    rintro e w1 ⟨rfl, hB⟩
    refine ⟨k, 0, r, n, c, l, rfl, ⟨Blk.step hB T.blk, ⟨T.its.own.kept (only_of_below hB none) (.inr (by simp [Value.ownBlock]))⟩, T.g0, T.rm, T.ln, T.sn, T.bd⟩, by omega, ?_, ?_, Only.of_below hB, .inl rfl⟩
    · intro by_; unfold addT; rw [hf]
    · rw [it_get l k hk]; exact mem_le_sum (List.getElem_mem hk)
  | none =>
    refine (place_none base g room seen A n c l nm w T hf).mono ?_
    rintro e w1 (⟨hr, A', c', rfl, T', hO, hN⟩ | ⟨hr, rfl, T', hO⟩)
    · obtain ⟨r, rfl, h1, h2, h3, h4⟩ := T'.its.row (by omega)
      have hg : (l ++ [(⟨nm, 0, 0⟩ : It)]).getD n default = ⟨nm, 0, 0⟩ := by
        rw [List.getD_eq_getElem?_getD, ← hln]; simp
      refine ⟨n, 0, r, n + 1, c', _, rfl, T', by omega, ?_, ?_, hO, hN⟩
      · intro by_
        rw [hg]
        unfold addT
        rw [hf]
        simp only
        rw [if_pos (by omega), ← hln, List.set_append_right _ _ (Nat.le_refl _)]
        simp
      · rw [hg]; exact Nat.zero_le _
    · have hn0 : 0 < n := by have := T.rm; omega
      have hl : l ≠ [] := fun e => by subst e; simp at hln; omega
      have hw := worst_lt l hl
      obtain ⟨r, rfl, h1, h2, h3, h4⟩ := T.its.row hn0
      have hg : (l.set (worst l) (⟨nm, (l.getD (worst l) default).many, (l.getD (worst l) default).many⟩ : It)).getD (worst l) default = ⟨nm, (l.getD (worst l) default).many, (l.getD (worst l) default).many⟩ := by
        rw [it_get _ _ (by simpa using hw)]; simp
      refine ⟨worst l, _, r, n, c, _, rfl, T', by omega, ?_, ?_, hO, .inl rfl⟩
      · intro by_
        rw [hg]
        unfold addT
        rw [hf]
        simp only
        rw [if_neg (by omega), List.set_set]
      · rw [hg]
        show (l.getD (worst l) default).many ≤ _
        rw [it_get l _ hw]
        exact mem_le_sum (List.getElem_mem hw)

set_option maxRecDepth 100000 in
set_option maxHeartbeats 2000000 in
theorem add_call (base g : Nat) (room seen : Nat) (A : Option Addr) (n c : Nat) (l : List It) (nm : ByteArray) (by_ : Nat) (hb : by_ < 18446744073709551616) (hnm : nm.size ≤ 140737488355328) (w : World) (T : Tp w base g room seen A n c l) (I : Inv room seen l) :
    Calls Tryd.prog 26 #[.pointer (some ⟨g, 0, none⟩), .string nm, .int .u64 by_] w fun e w' => e = .returned (.int .i64 (addE seen nm by_)) ∧ ∃ A' n' c', Tp w' base g room (stepS seen nm by_) A' n' c' (stepT room seen l nm by_) ∧
      Only w w' (mine g (.slice A n c)) ∧ RowNew w (.slice A n c) (.slice A' n' c') := by
  have hlt := T.blk.lt
  have hsn := T.sn
  have c2 : w.cell? ⟨g, 2, none⟩ = some (.int .u64 seen) := T.blk.cellAt 2 rfl
  have f2 := T.blk.frozen 2
  have hE : addE seen nm by_ = if 64 < nm.size ∨ by_ = 0 then 1 else if 4611686018427387904 - seen < by_ then 7 else 0 := rfl
  have hdo : addE seen nm by_ ≠ 0 → Tp w base g room (stepS seen nm by_) A n c (stepT room seen l nm by_) := fun h => by
    unfold stepS stepT
    rw [if_neg h, if_neg h]
    exact T
  by_cases h1 : 64 < nm.size
  · rw [if_pos (.inl h1)] at hE
    have hT := hdo (by omega)
    rw [hE]
    generalize stepS seen nm by_ = s' at *
    generalize stepT room seen l nm by_ = l' at *
    clear hdo hE
    have h1' : (64 : Int) < nm.size := by omega
    go_enter Tryd.func26, Tryd.ntmps26
    go_wp2_with fail
    go_ret
    exact ⟨rfl, A, n, c, hT, Only.refl _ _, .inl rfl⟩
  have h1' : ¬ (64 : Int) < nm.size := by omega
  by_cases h2 : by_ = 0
  · rw [if_pos (.inr h2)] at hE
    have hT := hdo (by omega)
    rw [hE]
    generalize stepS seen nm by_ = s' at *
    generalize stepT room seen l nm by_ = l' at *
    clear hdo hE
    subst h2
    go_enter Tryd.func26, Tryd.ntmps26
    go_wp2_with fail
    go_ret
    exact ⟨rfl, A, n, c, hT, Only.refl _ _, .inl rfl⟩
  have h2' : ((by_ : Int) == 0) = false := by simp; omega
  rw [if_neg (by rw [not_or]; exact ⟨h1, h2⟩)] at hE
  by_cases h3 : 4611686018427387904 - seen < by_
  · rw [if_pos h3] at hE
    have hT := hdo (by omega)
    rw [hE]
    generalize stepS seen nm by_ = s' at *
    generalize stepT room seen l nm by_ = l' at *
    clear hdo hE
    have h3' : (4611686018427387904 : Int) - seen < by_ := by omega
    have h4 : IntKind.u64.wrap (4611686018427387904 - seen) = (4611686018427387904 : Int) - seen := by simp [IntKind.wrap, IntKind.bits, IntKind.signed]; omega
    go_enter Tryd.func26, Tryd.ntmps26
    go_wp2_with fail
    go_ret
    exact ⟨rfl, A, n, c, hT, Only.refl _ _, .inl rfl⟩
  rw [if_neg h3] at hE
  have h3' : ¬ (4611686018427387904 : Int) - seen < by_ := by omega
  have h4 : IntKind.u64.wrap (4611686018427387904 - seen) = (4611686018427387904 : Int) - seen := by simp [IntKind.wrap, IntKind.bits, IntKind.signed]; omega
  have h5 : IntKind.u64.wrap ((seen : Int) + by_) = ((seen + by_ : Nat) : Int) := by simp [IntKind.wrap, IntKind.bits, IntKind.signed]; omega
  have hs : stepS seen nm by_ = seen + by_ := if_pos hE
  have hl : stepT room seen l nm by_ = addT room l nm by_ := if_pos hE
  rw [hE, hs, hl]
  obtain ⟨T1, O1⟩ := T.seen' (seen + by_) (by omega)
  have hsum := Lib.hid I.sum
  have HA : Hid (∀ l', l' = addT room l nm by_ → l' = addT room l nm by_) := Lib.hid (fun _ h => h)
  clear hdo hE hs hl I
  generalize haT : addT room l nm by_ = aT
  have HT := Lib.hid haT
  clear haT HA
  go_enter Tryd.func26, Tryd.ntmps26
  go_wp2_with (first
    | (go_at_call 41
       refine (place_call base g room (seen + by_) A n c l nm _ T1).mono ?_
       rintro e w1 ⟨k, ov, r, n', c', l', rfl, T2, hk, hset, hmany, O2, hN⟩
       obtain ⟨r', hr', _, hrlt, hrc, hcell⟩ := T2.its.row (by omega)
       cases hr'
       obtain ⟨x0, x1, x2⟩ := hcell k hk
       have cg : w1.cell? ⟨g, 0, none⟩ = some (.slice (some ⟨r, 0, none⟩) n' c') := T2.blk.cellAt 0 rfl
       have hn16 : n' ≤ 16 := by have := T2.ln; have := T2.rm; omega
       have hkn : (k : Int) < n' := by omega
       have fz := T2.its.own.frozenAt (k * 3 + 1)
       have hm2 : (l'.getD k default).many + by_ ≤ 4611686018427387904 := by have := hsum.out; omega
       have hset2 := hset by_
       rw [HT.out] at hset2
       obtain ⟨T3, O3⟩ := T2.many' k hk ((l'.getD k default).many + by_) hm2
       rw [hset2] at T3
       have HS := Lib.hid hset
       clear hset hset2 hcell
       generalize (l'.getD k default).many = wm at *
       have h6 : IntKind.u64.wrap ((wm : Int) + by_) = ((wm + by_ : Nat) : Int) := by simp [IntKind.wrap, IntKind.bits, IntKind.signed]; omega))
  go_ret
  refine ⟨rfl, _, n', c', T3, ?_, ?_⟩
  · refine ((O1.mono (S' := mine g (.slice A n c)) (fun i _ h => .inl h)).trans O2).andThen O3 ?_
    intro i hi h
    subst h
    rcases hN with h | ⟨q, h, hq⟩
    · exact .inr h
    · simp only [Value.ownBlock, Option.some.injEq] at h
      simp at hq
      omega
  · rcases hN with h | ⟨q, h, hq⟩
    · exact .inl h
    · exact .inr ⟨q, h, by simpa using hq⟩
end Go.Proofs.YtapiehddcdnadaaDoor
