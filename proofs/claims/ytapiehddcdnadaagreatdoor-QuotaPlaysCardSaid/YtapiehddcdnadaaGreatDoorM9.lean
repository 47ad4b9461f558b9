/- One top, all of it; the chapter's examples. TopHolds: the plain law. Rows of counts and of marks; names of one letter. May items be told? What is asked; ContainsFunc with the closure. -/
import Derived.Test.YtapiehddcdnadaaGreatDoorM8
import Derived.Lib.ConvBytes
import Derived.StillTailTactics
namespace Go.Proofs.YtapiehddcdnadaaGreatDoor
open Go.RowKit
set_option linter.unusedVariables false
set_option linter.unusedSimpArgs false

/-- A top at g in w; all below base is as in W. -/
def TM (W : World) (base g room seen : Nat) (l : List It) (w : World) : Prop := ∃ A n c, Tp w base g room seen A n c l ∧ Inv room seen l ∧ Below base W w ∧ base ≤ W.heap.size
/-- Blocks of other kinds are as they were. -/
def Far (g : Nat) (w w' : World) : Prop := w.heap.size ≤ w'.heap.size ∧ ∀ h t cs, Blk w h t cs → h ≠ g → t ≠ 75 → Blk w' h t cs
section
variable {W w w' : World} {base g room seen : Nat} {l : List It}
theorem TM.bs (h : TM W base g room seen l w) : base ≤ w.heap.size := by
  obtain ⟨A, n, c, T, _⟩ := h
  have := T.blk.lt
  have := T.g0
  omega
theorem TM.below (h : TM W base g room seen l w) : Below base W w := by
  obtain ⟨A, n, c, T, I, B, _⟩ := h
  exact B
theorem TM.inv (h : TM W base g room seen l w) : Inv room seen l := by
  obtain ⟨A, n, c, T, I, B, _⟩ := h
  exact I
theorem TM.rm (h : TM W base g room seen l w) : 1 ≤ room ∧ room ≤ 16 := by
  obtain ⟨A, n, c, T, I, B, _⟩ := h
  exact T.rm
theorem TM.lt (h : TM W base g room seen l w) : g < w.heap.size := by
  obtain ⟨A, n, c, T, I, B, _⟩ := h
  exact T.blk.lt
theorem TM.ge (h : TM W base g room seen l w) : base ≤ g := by
  obtain ⟨A, n, c, T, I, B, _⟩ := h
  exact T.g0
theorem Tp.step {A : Option Addr} {n c : Nat} (T : Tp w base g room seen A n c l) (hb : Below w.heap.size w w') : Tp w' base g room seen A n c l :=
  ⟨Blk.step hb T.blk, ⟨T.its.own.kept (only_of_below hb none) (by rcases Value.ownBlock (.slice A n c) with _ | z; exact .inl rfl; exact .inr (by simp))⟩, T.g0, T.rm, T.ln, T.sn, T.bd⟩
theorem TM.step (h : TM W base g room seen l w) (hb : Below w.heap.size w w') : TM W base g room seen l w' := by
  have hbs := h.bs
  obtain ⟨A, n, c, T, I, B, hW⟩ := h
  exact ⟨A, n, c, T.step hb, I, B.trans (hb.mono hbs), hW⟩
theorem TM.drew (h : TM W base g room seen l w) : TM W base g room seen l w.drew := h.step (bdrew (Below.refl _ _))
theorem TM.alloc (h : TM W base g room seen l w) (o : Obj) : TM W base g room seen l (w.alloc o) := h.step (balloc (Below.refl _ _) _)
/-- A cell of a block of another kind is set. -/
theorem TM.set (h : TM W base g room seen l w) {b i : Nat} {t : TypeId} {cs : Array Value} (hB : Blk w b t cs) (hg : b ≠ g) (ht : t ≠ 75) (hb : base ≤ b) (v : Value) : TM W base g room seen l (w.setCell ⟨b, i, none⟩ v) := by
  obtain ⟨A, n, c, T, I, B, hW⟩ := h
  have hG : w.grownBy (w.setCell ⟨b, i, none⟩ v) (some b) := only_setCell (p := ⟨b, i, none⟩) (only_refl _ _) (.inl rfl) _
  exact ⟨A, n, c, ⟨T.blk.far (fun e => hg e.symm) v, ⟨T.its.own.kept hG (.inr (fun e => T.its.far hB ht e.symm))⟩, T.g0, T.rm, T.ln, T.sn, T.bd⟩, I, B.setCell hb _, hW⟩
theorem Far.refl (g : Nat) (w : World) : Far g w w := ⟨Nat.le_refl _, fun _ _ _ h _ _ => h⟩
theorem Far.of_below {g : Nat} (h : Below w.heap.size w w') : Far g w w' := ⟨h.size, fun _ _ _ hB _ _ => Blk.step h hB⟩
theorem tm_new (k : Nat) (h0 : 1 ≤ k) (h1 : k ≤ 16) (hB : Below base W w) (hb : base ≤ W.heap.size) : Calls Tryz.prog 31 #[.int .i64 k] w fun e w' => e = .returned (.tuple #[.pointer (some ⟨w.heap.size, 0, none⟩), .int .i64 0]) ∧ TM W base w.heap.size k 0 [] w' ∧ Below w.heap.size w w' := by
  have hbw : base ≤ w.heap.size := Nat.le_trans hb hB.size
  refine (new_yes k h0 h1 base w hbw).mono ?_
  rintro e w1 ⟨rfl, T, hb1, _⟩
  exact ⟨rfl, ⟨none, 0, 0, T, ⟨rfl, List.nodup_nil, Nat.zero_le _, Nat.zero_le _⟩, hB.trans (hb1.mono hbw), hb⟩, hb1⟩
theorem tm_add (nm : ByteArray) (by_ : Nat) (hby : by_ < 18446744073709551616) (hnm : nm.size ≤ 140737488355328) (h : TM W base g room seen l w) :
    Calls Tryz.prog 61 #[.pointer (some ⟨g, 0, none⟩), .string nm, .int .u64 by_] w fun e w' => e = .returned (.int .i64 (addE seen nm by_)) ∧ TM W base g room (stepS seen nm by_) (stepT room seen l nm by_) w' ∧ Far g w w' := by
  have hbs := h.bs
  obtain ⟨A, n, c, T, I, B, hW⟩ := h
  refine (add_call base g room seen A n c l nm by_ hby hnm w T I).mono ?_
  rintro e w1 ⟨rfl, A', n', c', T', hO, hN⟩
  refine ⟨rfl, ⟨A', n', c', T', I.step T.rm.1 nm by_, hO.below B hbs ?_, hW⟩, hO.size, ?_⟩
  · rintro i hi (rfl | h2)
    · have := T.g0; omega
    · have := (T.its.own.lt i h2.symm).1; omega
  · intro x t cs hB hx ht
    refine hO.blk hB ?_
    rintro (h1 | h1)
    · exact hx h1
    · exact T.its.far hB ht h1
theorem tm_items (h : TM W base g room seen l w) :
    Calls Tryz.prog 50 #[.pointer (some ⟨g, 0, none⟩)] w fun e w' => ∃ A' n c' s, e = .returned (.slice A' n c') ∧ Told l s ∧ Its w' w.heap.size A' n c' s ∧ TM W base g room seen l w' ∧ Below w.heap.size w w' := by
  have h' := h
  obtain ⟨A, n, c, T, I, B, hW⟩ := h
  refine (items_call T).mono ?_
  rintro e w1 ⟨A', c', s, rfl, hT, hI, hB⟩
  exact ⟨A', n, c', s, rfl, hT, hI, h'.step hB, hB⟩
theorem tm_seen (h : TM W base g room seen l w) : Calls Tryz.prog 49 #[.pointer (some ⟨g, 0, none⟩)] w fun e w' => e = .returned (.int .u64 seen) ∧ w' = w := by
  obtain ⟨A, n, c, T, I, B, hW⟩ := h
  exact seen_call T
end

theorem eqAI (d : Nat) (x y : ByteArray) (x1 y1 x2 y2 : Int) (w : World) :
    (Op.equalIn (d + 2) 75 (.agg #[.string x, .int .u64 x1, .int .u64 x2]) (.agg #[.string y, .int .u64 y1, .int .u64 y2])).run Tryz.prog w = .ok (x.toList == y.toList && (x1 == y1 && (x2 == y2 && true))) w := by
  refine struct_eq Tryz.underlying75 (by kernel_rfl) ?_
  refine fields_cons (by rfl) (by go_simp; rfl) (by go_simp; rfl) (by go_simp) ?_
  refine fields_cons (by rfl) (by go_simp; rfl) (by go_simp; rfl) (by go_simp) ?_
  exact fields_cons (by rfl) (by go_simp; rfl) (by go_simp; rfl) (by go_simp) fields_nil
theorem eqI (x y : ByteArray) (x1 y1 x2 y2 : Int) (w : World) :
    (Op.equalIn 10000 75 (.agg #[.string x, .int .u64 x1, .int .u64 x2]) (.agg #[.string y, .int .u64 y1, .int .u64 y2])).run Tryz.prog w = .ok (x.toList == y.toList && (x1 == y1 && (x2 == y2))) w := by
  have h := eqAI 9998 x y x1 y1 x2 y2 w
  rw [Bool.and_true] at h
  exact h
theorem guardI : Tryz.prog.eqGuardType Tryz.prog.depth 75 = false := by kernel_rfl

def itA3 : It := ⟨⟨#[97]⟩, 3, 0⟩
def itC2 : It := ⟨⟨#[99]⟩, 2, 1⟩
def itB1 : It := ⟨⟨#[98]⟩, 1, 0⟩
theorem ex_steps : addE 0 ⟨#[97]⟩ 3 = 0 ∧ addE 3 ⟨#[98]⟩ 1 = 0 ∧ addE 4 ⟨#[99]⟩ 1 = 0 ∧ addE 5 ⟨#[97]⟩ 0 = 1 := by decide
theorem ex_list : stepT 2 0 [] ⟨#[97]⟩ 3 = [itA3] ∧ stepT 2 3 [itA3] ⟨#[98]⟩ 1 = [itA3, itB1] ∧ stepT 2 4 [itA3, itB1] ⟨#[99]⟩ 1 = [itA3, itC2] ∧ leastT 2 [itA3, itC2] = 2 := by
  refine ⟨rfl, rfl, rfl, rfl⟩
theorem ex_told {s : List It} (h : Told [itA3, itC2] s) : s = [itA3, itC2] := by
  refine (Told.unique (l := [itA3, itC2]) ⟨List.Perm.refl _, ?_⟩ h (List.Perm.refl _) (by decide)).symm
  refine List.Pairwise.cons ?_ (List.Pairwise.cons (by intro a ha; cases ha) List.Pairwise.nil)
  intro a ha
  rw [List.mem_singleton] at ha
  subst ha
  rfl
end Go.Proofs.YtapiehddcdnadaaGreatDoor
namespace Go.Proofs.YtapiehddcdnadaaGreatDoor
open Go.RowKit
set_option linter.unusedVariables false
set_option linter.unusedSimpArgs false

def nmOf (c : Nat) : ByteArray := strOfNums [((97 + c : Nat) : Int)]
def nml (c : Nat) : List UInt8 := [UInt8.ofNat (97 + c)]
theorem nmOf_list (c : Nat) : (nmOf c).data.toList = nml c := rfl
theorem nmOf_size (c : Nat) : (nmOf c).size = 1 := rfl
theorem nm_inj {c d : Nat} (hc : c < 26) (hd : d < 26) (h : nml c = nml d) : c = d := by
  unfold nml at h
  injection h with h _
  have := congrArg UInt8.toNat h
  simp at this
  omega
def byV (v : Int) : Nat := 1 + v.toNat / 64
def leV (v : Int) : Nat := v.toNat % 26
theorem leV_lt (v : Int) : leV v < 26 := Nat.mod_lt _ (by omega)
def realT (xs : List Int) (c : Nat) : Nat := (xs.map fun v => if leV v = c then byV v else 0).sum
def realL (xs : List Int) (n : List UInt8) : Nat := (xs.map fun v => if n = nml (leV v) then byV v else 0).sum
def allT (xs : List Int) : Nat := (xs.map byV).sum
def listT (room : Nat) (xs : List Int) : List It := xs.foldl (fun l v => addT room l (nmOf (leV v)) (byV v)) []
theorem take_snoc (xs : List Int) (j : Nat) (h : j < xs.length) : xs.take (j + 1) = xs.take j ++ [xs.getD j 0] := by
  rw [List.take_succ_eq_append_getElem h, List.getD_eq_getElem?_getD, List.getElem?_eq_getElem h]; rfl
theorem realT_snoc (xs : List Int) (v : Int) (c : Nat) : realT (xs ++ [v]) c = if c = leV v then realT xs c + byV v else realT xs c := by
  unfold realT
  rw [List.map_append, List.sum_append]
  by_cases h : c = leV v
  · subst h; simp
  · have h2 : leV v ≠ c := fun e => h e.symm
    simp [h, h2]
theorem allT_snoc (xs : List Int) (v : Int) : allT (xs ++ [v]) = allT xs + byV v := by unfold allT; simp
theorem listT_snoc (room : Nat) (xs : List Int) (v : Int) : listT room (xs ++ [v]) = addT room (listT room xs) (nmOf (leV v)) (byV v) := by unfold listT; simp
theorem realL_snoc (xs : List Int) (v : Int) : realL (xs ++ [v]) = fun m => if m = (nmOf (leV v)).data.toList then realL xs m + byV v else realL xs m := by
  funext m
  unfold realL
  rw [List.map_append, List.sum_append, nmOf_list]
  by_cases h : m = nml (leV v) <;> simp [h]
theorem realL_T (xs : List Int) (c : Nat) (hc : c < 26) : realL xs (nml c) = realT xs c := by
  unfold realL realT
  congr 1
  refine List.map_congr_left (fun v _ => ?_)
  by_cases h : leV v = c
  · rw [h]; simp
  · rw [if_neg h, if_neg (fun e => h (nm_inj (leV_lt v) hc e.symm))]
theorem off_nil (room : Nat) : Offenders room [] (realL []) (allT []) := ⟨rfl, List.nodup_nil, Nat.zero_le _, by simp, by simp, by simp, by simp [realL]⟩
theorem off_take (room : Nat) (h0 : 0 < room) (xs : List Int) : ∀ j, j ≤ xs.length → Offenders room (listT room (xs.take j)) (realL (xs.take j)) (allT (xs.take j))
  | 0, _ => off_nil room
  | j + 1, h => by
    have ih := (off_take room h0 xs j (by omega)).add h0 (nmOf (leV (xs.getD j 0))) (byV (xs.getD j 0))
    rw [take_snoc xs j (by omega), listT_snoc, realL_snoc, allT_snoc]
    exact ih
theorem addT_names {room : Nat} {l : List It} {nm : ByteArray} {n : Nat} {x : It} (h : x ∈ addT room l nm n) (h0 : 0 < room) : x.name = nm ∨ ∃ y ∈ l, x.name = y.name := by
  unfold addT at h
  cases hf : findI l nm with
  | some k =>
    rw [hf] at h
    obtain ⟨hk, _⟩ := findI_some hf
    rcases mem_set_it hk h with rfl | ⟨j, hj, _, rfl⟩
    · exact .inr ⟨l[k], List.getElem_mem hk, by rw [it_get l k hk]⟩
    · exact .inr ⟨_, List.getElem_mem hj, rfl⟩
  | none =>
    rw [hf] at h
    simp only at h
    split at h
    · rcases List.mem_append.1 h with h | h
      · exact .inr ⟨x, h, rfl⟩
      · rw [List.mem_singleton] at h; subst h; exact .inl rfl
    · next hlt =>
      have hl : l ≠ [] := fun e => by subst e; simp at hlt; omega
      rcases mem_set_it (worst_lt l hl) h with rfl | ⟨j, hj, _, rfl⟩
      · exact .inl rfl
      · exact .inr ⟨_, List.getElem_mem hj, rfl⟩
theorem list_names (room : Nat) (h0 : 0 < room) (xs : List Int) : ∀ j, j ≤ xs.length → ∀ x ∈ listT room (xs.take j), ∃ c, c < 26 ∧ x.name = nmOf c
  | 0, _ => by intro x hx; cases hx
  | j + 1, h => by
    intro x hx
    rw [take_snoc xs j (by omega), listT_snoc] at hx
    rcases addT_names hx h0 with e | ⟨y, hy, e⟩
    · exact ⟨_, leV_lt _, e⟩
    · obtain ⟨c, hc, e2⟩ := list_names room h0 xs j (by omega) y hy
      exact ⟨c, hc, e.trans e2⟩
theorem all_le (xs : List Int) (hx : ∀ v ∈ xs, 0 ≤ v ∧ v ≤ 255) : allT xs ≤ 4 * xs.length := by
  induction xs with
  | nil => simp [allT]
  | cons v xs ih =>
    have h1 := ih (fun w hw => hx w (List.mem_cons_of_mem _ hw))
    have h2 := hx v List.mem_cons_self
    unfold allT at *
    simp only [List.map_cons, List.sum_cons, List.length_cons]
    unfold byV
    unfold byV at h1
    omega
theorem real_le (xs : List Int) (c : Nat) : realT xs c ≤ allT xs := by
  induction xs with
  | nil => simp [realT, allT]
  | cons v xs ih =>
    unfold realT allT at *
    simp only [List.map_cons, List.sum_cons]
    split <;> omega

/-- What the law asks of what is told. -/
structure HoldsFin (k all : Nat) (R : Nat → Nat) (s : List It) : Prop where
  nm : ∀ i, i < s.length → ∃ c, c < 26 ∧ (s.getD i default).name = nmOf c ∧ R c ≤ (s.getD i default).many ∧ (s.getD i default).many ≤ R c + (s.getD i default).over ∧ (s.getD i default).over ≤ (s.getD i default).many ∧ (s.getD i default).over ≤ all / k
  ord : ∀ i, 0 < i → i < s.length → (s.getD i default).many ≤ (s.getD (i - 1) default).many
  sum : (s.map (·.many)).sum = all
  told : ∀ c, c < 26 → all / k < R c → ∃ i, i < s.length ∧ (s.getD i default).name = nmOf c
  len : s.length ≤ k
theorem least_le {room : Nat} {l : List It} {x : It} (h : x ∈ l) : leastT room l ≤ x.many := by
  unfold leastT
  split
  · exact Nat.zero_le _
  · exact worst_min l x h
theorem holds_fin (k : Nat) (h0 : 0 < k) (xs : List Int) {s : List It} (hT : Told (listT k xs) s) : HoldsFin k (allT xs) (realT xs) s := by
  have O := off_take k h0 xs xs.length (Nat.le_refl _)
  have N := list_names k h0 xs xs.length (Nat.le_refl _)
  rw [List.take_length] at O N
  have hd := least_div O h0
  refine ⟨?_, ?_, ?_, ?_, ?_⟩
  · intro i hi
    rw [it_get s i hi]
    have hm := hT.perm.subset (List.getElem_mem hi)
    obtain ⟨c, hc, e⟩ := N _ hm
    have h1 := O.hi _ hm
    have h2 := O.lo _ hm
    have h3 := O.ov _ hm
    have h4 := least_le (room := k) hm
    rw [e, nmOf_list, realL_T xs c hc] at h1 h2
    exact ⟨c, hc, e, h1, h2, by omega, by omega⟩
  · intro i h1 h2
    rw [it_get s i h2, it_get s (i - 1) (by omega)]
    have := List.pairwise_iff_getElem.1 hT.sort (i - 1) i (by omega) h2 (by omega)
    rw [ahead_no, not_or] at this
    omega
  · rw [(hT.perm.map _).sum_nat]
    exact O.sum
  · intro c hc hlt
    have h1 : nml c ∈ nms (listT k xs) := by
      refine Classical.byContradiction (fun hno => ?_)
      have := O.out _ hno
      rw [realL_T xs c hc] at this
      omega
    obtain ⟨x, hx, e⟩ := List.mem_map.1 h1
    obtain ⟨d, hdd, e2⟩ := N x hx
    rw [e2, nmOf_list] at e
    have := nm_inj hdd hc e
    subst this
    obtain ⟨i, hi, e3⟩ := List.mem_iff_getElem.1 (hT.perm.symm.subset hx)
    exact ⟨i, hi, by rw [it_get s i hi, e3]; exact e2⟩
  · rw [hT.perm.length_eq]
    exact O.len
end Go.Proofs.YtapiehddcdnadaaGreatDoor
namespace Go.Proofs.YtapiehddcdnadaaGreatDoor
open Go.RowKit
set_option linter.unusedVariables false
set_option linter.unusedSimpArgs false

theorem addE_ok {seen : Nat} {nm : ByteArray} {n : Nat} (h1 : nm.size ≤ 64) (h2 : n ≠ 0) (h3 : n ≤ 4611686018427387904 - seen) : addE seen nm n = 0 := by
  unfold addE
  rw [if_neg (by rw [not_or]; exact ⟨by omega, h2⟩), if_neg (by omega)]
theorem Ints.b8 {w : World} {a : Option Addr} {n : Nat} {xs : List Int} (h : Ints .u8 w a n xs) : ∀ v ∈ xs, 0 ≤ v ∧ v ≤ 255 := fun v hv => bounds_u8 (h.wf v hv)
/-- A row of 26 counts. -/
def arrU (m : Nat) (R : Nat → Nat) : Array Value := ((List.range m).map fun c => Value.int .u64 (R c)).toArray
theorem arrU_get (m : Nat) (R : Nat → Nat) (c : Nat) (h : c < m) : (arrU m R)[c]? = some (.int .u64 (R c)) := by simp [arrU, h]
theorem arrU_set (m : Nat) (R R' : Nat → Nat) (c : Nat) (v : Nat) (h : ∀ d, d < m → R' d = if d = c then v else R d) : (arrU m R).setIfInBounds c (.int .u64 v) = arrU m R' := by
  apply Array.ext
  · simp [arrU]
  · intro i h1 h2
    have hi : i < m := by simpa [arrU] using h2
    rw [Array.getElem_setIfInBounds (by simpa [arrU] using hi)]
    have := h i hi
    by_cases e : c = i
    · subst e; simp [arrU, this]
    · rw [if_neg e]
      rw [if_neg (fun e2 => e e2.symm)] at this
      simp [arrU, this]

/-- A row of 26 marks. -/
def arrB (m : Nat) (f : Nat → Bool) : Array Value := ((List.range m).map fun c => Value.bool (f c)).toArray
theorem arrB_get (m : Nat) (f : Nat → Bool) (c : Nat) (h : c < m) : (arrB m f)[c]? = some (.bool (f c)) := by simp [arrB, h]
theorem arrB_set (m : Nat) (f f' : Nat → Bool) (c : Nat) (v : Bool) (h : ∀ d, d < m → f' d = if d = c then v else f d) : (arrB m f).setIfInBounds c (.bool v) = arrB m f' := by
  apply Array.ext
  · simp [arrB]
  · intro i h1 h2
    have hi : i < m := by simpa [arrB] using h2
    rw [Array.getElem_setIfInBounds (by simpa [arrB] using hi)]
    have := h i hi
    by_cases e : c = i
    · subst e; simp [arrB, this]
    · rw [if_neg e]
      rw [if_neg (fun e2 => e e2.symm)] at this
      simp [arrB, this]
def toldB (s : List It) (q c : Nat) : Bool := (s.take q).any fun x => x.name.data.toList == nml c
theorem Its.step {w w' : World} {base : Nat} {A : Option Addr} {n c : Nat} {l : List It} (h : Its w base A n c l) (hb : Below w.heap.size w w') : Its w' base A n c l :=
  ⟨h.own.kept (only_of_below hb none) (by rcases Value.ownBlock (.slice A n c) with _ | z; exact .inl rfl; exact .inr (by simp))⟩
theorem Its.alloc {w : World} {base : Nat} {A : Option Addr} {n c : Nat} {l : List It} (h : Its w base A n c l) (o : Obj) : Its (w.alloc o) base A n c l := h.step (balloc (Below.refl _ _) _)

def sumQ (s : List It) (q : Nat) : Nat := ((s.take q).map (·.many)).sum
theorem sumQ_succ (s : List It) (q : Nat) (h : q < s.length) : sumQ s (q + 1) = sumQ s q + (s.getD q default).many := by
  unfold sumQ
  rw [List.take_succ_eq_append_getElem h, it_get s q h, List.map_append, List.sum_append]
  rfl
theorem sumQ_le (s : List It) (q : Nat) : sumQ s q ≤ (s.map (·.many)).sum := by
  unfold sumQ
  have h : ((s.take q ++ s.drop q).map (·.many)).sum = (s.map (·.many)).sum := by rw [List.take_append_drop]
  rw [List.map_append, List.sum_append] at h
  omega
theorem sumQ_all (s : List It) (q : Nat) (h : s.length ≤ q) : sumQ s q = (s.map (·.many)).sum := by
  unfold sumQ
  rw [List.take_of_length_le h]
theorem nm_b (c : Nat) (hc : c < 26) (h : 0 < (nmOf c).size) : ((nmOf c)[0]'h).toNat = 97 + c := by
  have e : (nmOf c)[0]'h = UInt8.ofNat (97 + c) := rfl
  rw [e]
  simp
  omega
theorem conv1 (W : World) (b c : Nat) (B : Blk W b 5 #[.int .u8 (97 + (c : Int))]) : (convert 68 9 (.slice (some ⟨b, 0, none⟩) 1 1)).run Tryz.prog W = .ok (.string (nmOf c)) W := by
  have h := run_convert_bytes_arg (P := Tryz.prog) W 68 5 Tryz.underlying68 Tryz.underlying5 b 0 1 1 [(97 + (c : Int))] rfl (fun i hi => by
    obtain rfl : i = 0 := by omega
    exact B.cellAt 0 rfl) 9 Tryz.underlying9
  have e : nmOf c = strOfNums [(97 + (c : Int))] := by unfold nmOf; rw [Int.natCast_add]; rfl
  rw [e]
  exact h

end Go.Proofs.YtapiehddcdnadaaGreatDoor
namespace Go.Proofs.YtapiehddcdnadaaGreatDoor
open Go.RowKit
set_option linter.unusedVariables false
set_option linter.unusedSimpArgs false

/-- A slice of items, whoever's it is. -/
structure ItRow (w : World) (A : Option Addr) (n : Nat) (l : List It) : Prop where
  len : l.length = n
  at_ : 0 < n → ∃ b off, A = some ⟨b, off, none⟩ ∧ b < w.heap.size ∧ ∀ i, i < n → w.cell? ⟨b, off + i * 3, none⟩ = some (.string (l.getD i default).name) ∧ w.cell? ⟨b, off + i * 3 + 1, none⟩ = some (.int .u64 (l.getD i default).many) ∧ w.cell? ⟨b, off + i * 3 + 2, none⟩ = some (.int .u64 (l.getD i default).over)
theorem Its.itRow {w : World} {base : Nat} {A : Option Addr} {n c : Nat} {l : List It} (h : Its w base A n c l) : ItRow w A n l := ⟨h.len, fun hn => by
  obtain ⟨r, rfl, _, hr, _, hc⟩ := h.row hn
  exact ⟨r, 0, rfl, hr, fun i hi => by rw [Nat.zero_add]; exact hc i hi⟩⟩
theorem ItRow.step {w w' : World} {A : Option Addr} {n : Nat} {l : List It} (h : ItRow w A n l) (hb : Below w.heap.size w w') : ItRow w' A n l := ⟨h.len, fun hn => by
  obtain ⟨b, off, rfl, hr, hc⟩ := h.at_ hn
  refine ⟨b, off, rfl, Nat.lt_of_lt_of_le hr hb.size, fun i hi => ?_⟩
  obtain ⟨x, y, z⟩ := hc i hi
  exact ⟨(hb.cell (p := ⟨b, off + i * 3, none⟩) hr).trans x, (hb.cell (p := ⟨b, off + i * 3 + 1, none⟩) hr).trans y, (hb.cell (p := ⟨b, off + i * 3 + 2, none⟩) hr).trans z⟩⟩

def twice (l : List It) (k : Nat) : Bool := (l.take k).any fun o => o.name.toList == (l.getD k default).name.toList
/-- The item at k may be told, left left. -/
structure OkAt (room : Nat) (l : List It) (left k : Nat) : Prop where
  one : twice l k = false
  nm : (l.getD k default).name.size ≤ 64
  ov : (l.getD k default).over < (l.getD k default).many
  le : (l.getD k default).many ≤ left
  last : (l.getD k default).over ≤ (l.getD (l.length - 1) default).many
  full : (l.getD k default).over = 0 ∨ ¬ l.length < room
  ord : k = 0 ∨ ahead (l.getD (k - 1) default) (l.getD k default) = true
structure RightP (room seen : Nat) (l : List It) : Prop where
  len : l.length ≤ room
  sn : seen ≤ 4611686018427387904
  ok : ∀ k, k < l.length → OkAt room l (seen - sumQ l k) k
  sum : (l.map (·.many)).sum = seen

theorem wrap_sub (a b : Nat) (h : b ≤ a) (ha : a < 18446744073709551616) : IntKind.u64.wrap ((a : Int) - b) = ((a - b : Nat) : Int) := by
  simp [IntKind.wrap, IntKind.bits, IntKind.signed]
  omega
theorem add_le_of (a b s : Nat) (h : b ≤ s - a) (h0 : a ≤ s) : a + b ≤ s := by omega
/-- What follows is put aside. -/
theorem still_gen {P : Program} {arr : Array Oper} {w : World} {K : Act → Prop} {l : List Oper} {a : Act} (h : ∀ K' : Act → Prop, Hid (∀ a', K a' → K' a') → wpStill P arr w K' l a) : wpStill P arr w K l a := h K (Lib.hid (fun _ h => h))
theorem pred43 (x : It) (xb : Nat) (w : World) (hx : w.cell? ⟨xb, 0, none⟩ = some (.string x.name)) (hb : xb < w.heap.size) :
    PredBelow Tryz.prog 88 #[.pointer (some ⟨xb, 0, none⟩)] (fun y => .agg (encI y).toArray) (fun y => y.name.toList == x.name.toList) w := fun W y hB => by
  have hc : W.cell? ⟨xb, 0, none⟩ = some (.string x.name) := (hB.cell (p := ⟨xb, 0, none⟩) hb).trans hx
  have hBW : xb < W.heap.size := Nat.lt_of_lt_of_le hb hB.size
  have hne : xb ≠ W.heap.size := by omega
  show Calls Tryz.prog 88 #[.agg #[.string y.name, .int .u64 y.many, .int .u64 y.over], .pointer (some ⟨xb, 0, none⟩)] W _
  show Calls Tryz.prog 88 #[.agg #[.string y.name, .int .u64 y.many, .int .u64 y.over], .pointer (some ⟨xb, 0, none⟩)] W fun e w' => e = .returned (.bool (y.name.toList == x.name.toList)) ∧ Below w.heap.size w w'
  obtain ⟨r, hr⟩ : ∃ r, (y.name.toList == x.name.toList) = r := ⟨_, rfl⟩
  rw [hr]
  go_enter Tryz.func88, Tryz.ntmps88
  go_wp2_with fail
  go_ret
  exact ⟨rfl, hB.alloc hB.size _⟩
theorem contains_call (x : It) (xb : Nat) (w : World) (hx : w.cell? ⟨xb, 0, none⟩ = some (.string x.name)) (hxb : xb < w.heap.size) (b off n c k : Nat) (l : List It) (hk : k ≤ n) (hn : n ≤ 9223372036854775807) (R : ItRow w (some ⟨b, off, none⟩) n l) (h0 : 0 < n) :
    Calls Tryz.prog 87 #[.slice (some ⟨b, off, none⟩) k c, .func (.func 88) #[] #[.pointer (some ⟨xb, 0, none⟩)]] w fun e w' => e = .returned (.bool ((l.take k).any fun y => y.name.toList == x.name.toList)) ∧ Below w.heap.size w w' := by
  have eg : ∀ args w, (callFunc 88 args).run Tryz.prog w = .ok (.enter 88 args) w := enters_of Tryz.func88 (by kernel_rfl) rfl
  obtain ⟨b', off', hA, hbl, hcell⟩ := R.at_ h0
  cases hA
  have hcon := AnyQ.slices_ContainsFunc Tryz.containsIt 3 Tryz.isAgg75 Tryz.sizeOf75 encI (fun _ => rfl) (fun y => y.name.toList == x.name.toList) 88 #[.pointer (some ⟨xb, 0, none⟩)] eg b off k c l w (pred43 x xb w hx hxb) (by rw [R.len]; exact hk) (by omega) hbl (fun j hj i v hi => by
    have h1 := hcell j (by rw [← R.len]; exact hj)
    have e : l[j]! = l.getD j default := by rw [it_get l j hj, getElem!_pos l j hj]
    rw [e] at hi
    generalize l.getD j default = y at hi h1
    match i, hi with
    | 0, hi => simp [encI] at hi; rw [← hi]; exact h1.1
    | 1, hi => simp [encI] at hi; rw [← hi]; exact h1.2.1
    | 2, hi => simp [encI] at hi; rw [← hi]; exact h1.2.2
    | i + 3, hi => simp [encI] at hi)
  exact hcon

/-- It returns whether P. -/
def Answers (P : Prop) (e : Ending) : Prop := (P ∧ e = .returned (.bool true)) ∨ (¬ P ∧ e = .returned (.bool false))
theorem answers_no {P : Prop} (h : ¬ P) : Answers P (.returned (.bool false)) := .inr ⟨h, rfl⟩
theorem answers_yes {P : Prop} (h : P) : Answers P (.returned (.bool true)) := .inl ⟨h, rfl⟩

end Go.Proofs.YtapiehddcdnadaaGreatDoor
