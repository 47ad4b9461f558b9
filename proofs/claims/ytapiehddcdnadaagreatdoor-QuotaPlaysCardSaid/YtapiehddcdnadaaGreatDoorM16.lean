/- TopOf: the reference's top alone; what is done to a row of items; the plain laws. Items that came in. -/
import Derived.Test.YtapiehddcdnadaaGreatDoorTopO2
import Derived.Test.YtapiehddcdnadaaGreatDoorM13
import Derived.Test.YtapiehddcdnadaaGreatDoorM1
namespace Go.Proofs.YtapiehddcdnadaaGreatDoor
open Go.RowKit
set_option linter.unusedVariables false
set_option linter.unusedSimpArgs false

/-- The reference's top at h. -/
def RM (W : World) (base h room seen : Nat) (l : List It) (w : World) : Prop := ∃ A n c, Rp w base h room seen A n c l ∧ Inv room seen l ∧ Below base W w ∧ base ≤ W.heap.size
section
variable {W w w' : World} {base h room s : Nat} {L : List It}
theorem RM.bs (H : RM W base h room s L w) : base ≤ w.heap.size := by
  obtain ⟨A, n, c, T, _⟩ := H
  have := T.blk.lt
  have := T.g0
  omega
theorem RM.below (H : RM W base h room s L w) : Below base W w := by
  obtain ⟨A, n, c, T, I, B, _⟩ := H
  exact B
theorem RM.inv (H : RM W base h room s L w) : Inv room s L := by
  obtain ⟨A, n, c, T, I, B, _⟩ := H
  exact I
theorem RM.step (H : RM W base h room s L w) (hb : Below w.heap.size w w') : RM W base h room s L w' := by
  have hbs := H.bs
  obtain ⟨A, n, c, T, I, B, hW⟩ := H
  exact ⟨A, n, c, T.step hb, I, B.trans (hb.mono hbs), hW⟩
theorem RM.cell (H : RM W base h room s L w) : w.cell? ⟨h, 2, none⟩ = some (.int .u64 s) ∧ h < w.heap.size := by
  obtain ⟨A, n, c, T, I, B, _⟩ := H
  exact ⟨T.blk.cellAt 2 rfl, T.blk.lt⟩
theorem rm_new (k : Nat) (h0 : 1 ≤ k) (h1 : k ≤ 16) (hB : Below base W w) (hb : base ≤ W.heap.size) : Calls Tryz.prog 34 #[.int .i64 k] w fun e w' => e = .returned (.pointer (some ⟨w.heap.size, 0, none⟩)) ∧ RM W base w.heap.size k 0 [] w' ∧ Below w.heap.size w w' := by
  have hbw : base ≤ w.heap.size := Nat.le_trans hb hB.size
  refine (rnew_yes k h0 h1 base w hbw).mono ?_
  rintro e w1 ⟨rfl, R, hb1⟩
  exact ⟨rfl, ⟨none, 0, 0, R, ⟨rfl, List.nodup_nil, Nat.zero_le _, Nat.zero_le _⟩, hB.trans (hb1.mono hbw), hb⟩, hb1⟩
theorem rm_add (nm : ByteArray) (by_ : Nat) (hby : by_ < 18446744073709551616) (H : RM W base h room s L w) :
    Calls Tryz.prog 65 #[.pointer (some ⟨h, 0, none⟩), .string nm, .int .u64 by_] w fun e w' => e = .returned (.int .i64 (addE s nm by_)) ∧ RM W base h room (stepS s nm by_) (stepT room s L nm by_) w' := by
  by_cases hl : 64 < nm.size
  · have he := addE_over s nm by_ hl
    have e1 : stepS s nm by_ = s := if_neg (by omega)
    have e2 : stepT room s L nm by_ = L := if_neg (by omega)
    rw [he, e1, e2]
    refine (radd_long _ nm by_ w hl).mono ?_
    rintro e w1 ⟨rfl, rfl⟩
    exact ⟨rfl, H⟩
  · have hbs := H.bs
    obtain ⟨A, n, c, R, I, hB, hW⟩ := H
    refine (radd_call base h room s A n c L nm by_ hby (by omega) w R I).mono ?_
    rintro e w1 ⟨rfl, A', n', c', R', hO, hN⟩
    refine ⟨rfl, A', n', c', R', I.step R.rm.1 nm by_, hO.below hB hbs ?_, hW⟩
    rintro i hi (rfl | h2)
    · have := R.g0; omega
    · have := (R.its.own.lt i h2.symm).1; omega
theorem rm_items (H : RM W base h room s L w) :
    Calls Tryz.prog 54 #[.pointer (some ⟨h, 0, none⟩)] w fun e w' => ∃ A n c t, e = .returned (.slice A n c) ∧ Told L t ∧ n ≤ 16 ∧ ItRow w' A n t ∧ n ≤ c ∧ RM W base h room s L w' := by
  have H' := H
  obtain ⟨A, n, c, R, I, hB, hW⟩ := H
  refine (ritems_call R).mono ?_
  rintro e w1 ⟨A', c', t, rfl, hT, hI, hb⟩
  have h1 := hT.len
  have h2 := hI.len
  have h3 := I.len
  have h4 := R.rm
  exact ⟨A', _, c', t, rfl, hT, by omega, hI.itRow, rits_le hI, H'.step hb⟩
end

theorem flat_field (l : List It) (i r : Nat) (u : Value) (x : It) (hi : i < l.length) (hr : r < 3) (hx : encI x = (encI (l.getD i default)).set r u) : flat (l.set i x) = (flat l).set (i * 3 + r) u := by
  induction l generalizing i with
  | nil => simp at hi
  | cons y l ih =>
    cases i with
    | zero =>
      show encI x ++ flat l = (encI y ++ flat l).set (0 * 3 + r) u
      rw [List.set_append_left _ _ (by simp [encI]; omega), Nat.zero_mul, Nat.zero_add]
      rw [hx]
      rfl
    | succ i =>
      show encI y ++ flat (l.set i x) = (encI y ++ flat l).set _ _
      rw [List.set_append_right _ _ (by simp [encI]; omega), ih i (by simpa using hi) (by rw [hx, List.getD_cons_succ])]
      have e : (i + 1) * 3 + r - (encI y).length = i * 3 + r := by show (i + 1) * 3 + r - 3 = _; omega
      rw [e]
/-- What may be handed to Of: its bounds. -/
def Bd (l : List It) : Prop := ∀ x ∈ l, x.many < 18446744073709551616 ∧ x.over < 18446744073709551616 ∧ x.name.size ≤ 9223372036854775807
theorem Bd.set {l : List It} (h : Bd l) (i : Nat) {x : It} (hx : x.many < 18446744073709551616 ∧ x.over < 18446744073709551616 ∧ x.name.size ≤ 9223372036854775807) : Bd (l.set i x) := by
  intro y hy
  rcases List.mem_or_eq_of_mem_set hy with h1 | rfl
  · exact h y h1
  · exact hx
theorem Bd.drop {l : List It} (h : Bd l) (i : Nat) : Bd (l.drop i) := fun x hx => h x (List.mem_of_mem_drop hx)
theorem Bd.at {l : List It} (h : Bd l) (i : Nat) (hi : i < l.length) : (l.getD i default).many < 18446744073709551616 ∧ (l.getD i default).over < 18446744073709551616 ∧ (l.getD i default).name.size ≤ 9223372036854775807 := by
  rw [it_get l i hi]; exact h _ (List.getElem_mem _)
section
variable {w : World} {base g n c : Nat} {l : List It}
theorem its_many (I : Its w base (some ⟨g, 0, none⟩) n c l) (q : Nat) (hq : q < n) (v : Nat) :
    Its (w.setCell ⟨g, q * 3 + 1, none⟩ (.int .u64 v)) base (some ⟨g, 0, none⟩) n c (l.set q ⟨(l.getD q default).name, v, (l.getD q default).over⟩) ∧ w.grownBy (w.setCell ⟨g, q * 3 + 1, none⟩ (.int .u64 v)) (some g) := by
  have hln := I.len
  obtain ⟨o, hg⟩ := I.own.stored (q * 3 + 1) (.int .u64 v)
  exact ⟨⟨by rw [flat_field l q 1 (.int .u64 v) _ (by omega) (by omega) rfl]; exact o⟩, hg⟩
theorem its_over (I : Its w base (some ⟨g, 0, none⟩) n c l) (q : Nat) (hq : q < n) (v : Nat) :
    Its (w.setCell ⟨g, q * 3 + 2, none⟩ (.int .u64 v)) base (some ⟨g, 0, none⟩) n c (l.set q ⟨(l.getD q default).name, (l.getD q default).many, v⟩) ∧ w.grownBy (w.setCell ⟨g, q * 3 + 2, none⟩ (.int .u64 v)) (some g) := by
  have hln := I.len
  obtain ⟨o, hg⟩ := I.own.stored (q * 3 + 2) (.int .u64 v)
  exact ⟨⟨by rw [flat_field l q 2 (.int .u64 v) _ (by omega) (by omega) rfl]; exact o⟩, hg⟩
theorem its_name (I : Its w base (some ⟨g, 0, none⟩) n c l) (q : Nat) (hq : q < n) (v : ByteArray) :
    Its (w.setCell ⟨g, q * 3, none⟩ (.string v)) base (some ⟨g, 0, none⟩) n c (l.set q ⟨v, (l.getD q default).many, (l.getD q default).over⟩) ∧ w.grownBy (w.setCell ⟨g, q * 3, none⟩ (.string v)) (some g) := by
  have hln := I.len
  obtain ⟨o, hg⟩ := I.own.stored (q * 3) (.string v)
  exact ⟨⟨by rw [flat_field l q 0 (.string v) _ (by omega) (by omega) rfl]; exact o⟩, hg⟩
/-- All three cells of an item. -/
theorem its_put (I : Its w base (some ⟨g, 0, none⟩) n c l) (q : Nat) (hq : q < n) (x : It) :
    Its (((w.setCell ⟨g, q * 3, none⟩ (.string x.name)).setCell ⟨g, q * 3 + 1, none⟩ (.int .u64 x.many)).setCell ⟨g, q * 3 + 2, none⟩ (.int .u64 x.over)) base (some ⟨g, 0, none⟩) n c (l.set q x) ∧
    w.grownBy (((w.setCell ⟨g, q * 3, none⟩ (.string x.name)).setCell ⟨g, q * 3 + 1, none⟩ (.int .u64 x.many)).setCell ⟨g, q * 3 + 2, none⟩ (.int .u64 x.over)) (some g) := by
  have hln := I.len
  obtain ⟨o1, g1⟩ := I.own.stored (q * 3) (.string x.name)
  obtain ⟨o2, g2⟩ := o1.stored (q * 3 + 1) (.int .u64 x.many)
  obtain ⟨o3, g3⟩ := o2.stored (q * 3 + 2) (.int .u64 x.over)
  refine ⟨⟨by rw [flat_set l q x (by omega)]; exact o3⟩, only_trans (only_trans g1 g2) g3⟩
end
theorem right_nodup {room seen : Nat} {l : List It} (h : RightP room seen l) : (nms l).Nodup := by
  unfold nms List.Nodup
  rw [List.pairwise_iff_getElem]
  intro i j hi hj hij he
  simp only [List.length_map] at hi hj
  have h1 := (h.ok j hj).one
  have h2 := twice_yes (l := l) (j := j) (q := i) hj hij (by
    rw [it_get l i hi, it_get l j hj]
    simp only [List.getElem_map] at he
    rw [beq_iff_eq, Lib.toList_data, Lib.toList_data]
    simpa using he)
  rw [h1] at h2
  cases h2
theorem of_room (room : Int) (seen : Int) (v : Value) (hr : room < 1 ∨ 16 < room) (w : World) : Calls Tryz.prog 47 #[.int .i64 room, .int .u64 seen, v] w fun e w' => e = .returned (.tuple #[.pointer none, .int .i64 1]) ∧ w' = w := by
  have HN := Lib.hid (fun w => new_no room hr w)
  clear hr
  go_enter Tryz.func47, Tryz.ntmps47
  go_wp2_with (go_at_call 31; refine (HN.out _).mono ?_; rintro e w2 ⟨rfl, rfl⟩)
  go_ret2
  exact ⟨rfl, rfl⟩
theorem rof_room (room : Int) (seen : Int) (v : Value) (hr : room < 1 ∨ 16 < room) (w : World) : Calls Tryz.prog 52 #[.int .i64 room, .int .u64 seen, v] w fun e w' => e = .returned (.tuple #[.pointer none, .int .i64 1]) ∧ w' = w := by
  have HN := Lib.hid (fun w => rnew_no room hr w)
  clear hr
  go_enter Tryz.func52, Tryz.ntmps52
  go_wp2_with (go_at_call 34; refine (HN.out _).mono ?_; rintro e w2 ⟨rfl, rfl⟩)
  go_ret2
  exact ⟨rfl, rfl⟩
end Go.Proofs.YtapiehddcdnadaaGreatDoor
namespace Go.Proofs.YtapiehddcdnadaaGreatDoor
open Go.RowKit Go.ChangeShapes Go.WideShapes Go.ChangeAt Go.Deep
set_option linter.unusedVariables false
set_option linter.unusedSimpArgs false

theorem sl_sized {H : Type} {enc : TypeId × Value → H} {P : Program} {W : World} {base : Nat} {held : Bool} {t e : TypeId} {a : Option Addr} {len cap : Nat} {d : DataW H} {ps : List MemPlace} {ts : List TypeId} {ds : List (DataW H)} {j : Nat}
    (hsz : (DataW.weightsEach P ts ds).all (· ≤ reachBytes) = true) (ht : ts[j]? = some t) (hd : ds[j]? = some d) (hu : P.underlying t = some (.slice e)) {B : Nat} (hB : P.bytesOf e = B)
    (h : DataW.Trod enc P W base (fun _ => true) held t (.slice a len cap) d ps) : len * B ≤ 140737488351232 := by
  obtain ⟨fuel, hf⟩ := h
  rcases open_slice hu hf with ⟨hcs, _⟩ | ⟨x, l, c, m, k, D, Pl, hcs, _, hl, _, _, hx, _⟩
  · simp [Value.cells] at hcs
    obtain ⟨rfl, rfl, rfl⟩ := hcs
    simp
  · simp [Value.cells] at hcs
    obtain ⟨rfl, rfl, rfl⟩ := hcs
    obtain ⟨hx, _⟩ := Prod.mk.inj hx
    subst hx
    have z := sized_slice hsz ht hd hu
    rw [hB] at z
    simp only [List.length_map, List.length_range, reachBytes] at z
    have h1 : len * B ≤ (len + (m - len)) * B := Nat.mul_le_mul_right _ (by omega)
    omega

/-- n items lie at a. -/
def ItemsT (W : World) (a : Option Addr) (n c : Nat) : Prop := ∃ l, ItRow W a n l ∧ n ≤ c ∧ n ≤ 4398046511103 ∧ Bd l
theorem items_choice {p : Nat → It → Prop} : ∀ (n : Nat), (∀ i, i < n → ∃ x, p i x) → ∃ l : List It, l.length = n ∧ ∀ i, i < n → p i (l.getD i default)
  | 0, _ => ⟨[], rfl, fun i h => by omega⟩
  | n + 1, h => by
    obtain ⟨l, hl, hp⟩ := items_choice n (fun i hi => h i (by omega))
    obtain ⟨x, hx⟩ := h n (by omega)
    refine ⟨l ++ [x], by simp [hl], fun i hi => ?_⟩
    rcases Nat.lt_or_ge i n with h1 | h1
    · have h2 := hp i h1
      rw [List.getD_eq_getElem?_getD, List.getElem?_append_left (by omega), ← List.getD_eq_getElem?_getD]
      exact h2
    · have e : i = n := by omega
      subst e
      rw [List.getD_eq_getElem?_getD, List.getElem?_append_right (by omega), hl]
      simpa using hx
theorem items_open {H : Type} {enc : TypeId × Value → H} {W : World} {base : Nat} {held : Bool} {a : Option Addr} {n c : Nat} {d : DataW H} {ps : List MemPlace} (hn : n * 32 ≤ 140737488351232)
    (h : DataW.Trod enc Tryz.prog W base (fun _ => true) held 57 (.slice a n c) d ps) : ItemsT W a n c := by
  obtain ⟨h1, h2, h3⟩ := fields_open Tryz.underlying57 Tryz.underlying75 (by kernel_rfl) (by kernel_rfl) (by decide) h
  have hm : maxLen = 9223372036854775807 := by decide
  rcases Nat.eq_zero_or_pos n with h0 | h0
  · subst h0
    exact ⟨[], ⟨rfl, fun h => absurd h (by omega)⟩, by omega, by omega, fun x hx => by cases hx⟩
  · obtain ⟨b, off, ha, hlt, hi⟩ := h3 h0
    have key : ∀ i, i < n → ∃ x : It, (W.cell? ⟨b, off + i * 3, none⟩ = some (.string x.name) ∧ W.cell? ⟨b, off + i * 3 + 1, none⟩ = some (.int .u64 x.many) ∧ W.cell? ⟨b, off + i * 3 + 2, none⟩ = some (.int .u64 x.over)) ∧ x.many < 18446744073709551616 ∧ x.over < 18446744073709551616 ∧ x.name.size ≤ 9223372036854775807 := fun i hin => by
      obtain ⟨u0, k0, z0, c0, t0⟩ := hi i hin 0 _ rfl
      obtain ⟨u1, k1, z1, c1, t1⟩ := hi i hin 1 _ rfl
      obtain ⟨u2, k2, z2, c2, t2⟩ := hi i hin 2 _ rfl
      obtain ⟨s0, e0, _, w0⟩ := DataW.trod_string Tryz.underlying9 t0
      obtain ⟨n1, e1, _, w1⟩ := DataW.trod_int Tryz.underlying31 t1
      obtain ⟨n2, e2, _, w2⟩ := DataW.trod_int Tryz.underlying31 t2
      obtain rfl : u0 = .string s0 := by simpa using e0
      obtain rfl : u1 = .int .u64 n1 := by simpa using e1
      obtain rfl : u2 = .int .u64 n2 := by simpa using e2
      have b1 := bounds_u64 w1
      have b2 := bounds_u64 w2
      refine ⟨⟨s0, n1.toNat, n2.toNat⟩, ⟨by simpa using c0, ?_, ?_⟩, by show n1.toNat < _; omega, by show n2.toNat < _; omega, by show s0.size ≤ _; omega⟩
      · show _ = some (Value.int .u64 (n1.toNat : Int))
        rw [Int.toNat_of_nonneg b1.1]; simpa [Nat.add_assoc] using c1
      · show _ = some (Value.int .u64 (n2.toNat : Int))
        rw [Int.toNat_of_nonneg b2.1]; simpa [Nat.add_assoc] using c2
    obtain ⟨l, hl, hp⟩ := items_choice n key
    refine ⟨l, ⟨hl, fun _ => ⟨b, off, ha, hlt, fun i hin => (hp i hin).1⟩⟩, h1, by omega, fun x hx => ?_⟩
    obtain ⟨i, hi', rfl⟩ := List.mem_iff_getElem.1 hx
    have := (hp i (by omega)).2
    rwa [it_get l i hi'] at this
end Go.Proofs.YtapiehddcdnadaaGreatDoor
