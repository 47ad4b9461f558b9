/- LexLines. -/
import Derived.Test.YtoaohohnaifjdaaDoorLexG
import Derived.Deep.Slices
namespace Go.Proofs.YtoaohohnaifjdaaDoor
open Go.RowKit Go.ChangeShapes Go.WideShapes Go.ChangeAt Go.Deep
set_option linter.unusedVariables false
set_option linter.unusedSimpArgs false

/-- n strings lie at a. -/
def StrsT (W : World) (a : Option Addr) (n : Nat) : Prop := ∃ ss : List ByteArray, ss.length = n ∧ n ≤ 9223372036854775807 ∧ (∀ s ∈ ss, s.size ≤ 9223372036854775807) ∧ (0 < n → ∃ b off, a = some ⟨b, off, none⟩ ∧ b < W.heap.size ∧ ∀ i, i < n → W.cell? ⟨b, off + i, none⟩ = some (.string (ss.getD i default)))
theorem strs_choice {p : Nat → ByteArray → Prop} : ∀ (n : Nat), (∀ i, i < n → ∃ x, p i x) → ∃ l : List ByteArray, l.length = n ∧ ∀ i, i < n → p i (l.getD i default)
  | 0, _ => ⟨[], rfl, fun i h => by omega⟩
  | n + 1, h => by
    obtain ⟨l, hl, hp⟩ := strs_choice n (fun i hi => h i (by omega))
    obtain ⟨x, hx⟩ := h n (by omega)
    refine ⟨l ++ [x], by simp [hl], fun i hi => ?_⟩
    rcases Nat.lt_or_ge i n with h1 | h1
    · have h2 := hp i h1
      rw [List.getD_eq_getElem?_getD, List.getElem?_append_left (by omega), ← List.getD_eq_getElem?_getD]
      exact h2
    · have e : i = n := by omega
      subst e
      rw [List.getD_eq_getElem?_getD, List.getElem?_append_right (by omega), hl]
      simpa using hx
theorem strs_open {H : Type} {enc : TypeId × Value → H} {W : World} {base : Nat} {held : Bool} {a : Option Addr} {n c : Nat} {d : DataW H} {ps : List MemPlace}
    (h : DataW.Trod enc Tryd.prog W base (fun _ => true) held 31 (.slice a n c) d ps) : StrsT W a n := by
  have hm : maxLen = 9223372036854775807 := by decide
  obtain ⟨fuel, hf⟩ := h
  rcases open_slice1 Tryd.underlying31 (by kernel_rfl) hf with ⟨hcs, _⟩ | ⟨x, l, c', m, k, V, D, Pl, hcs, _, hl, hcm, hmm, _, hi⟩
  · simp [Value.cells] at hcs
    obtain ⟨rfl, rfl, rfl⟩ := hcs
    exact ⟨[], rfl, by omega, (fun s hs => (by cases hs)), fun h => absurd h (by omega)⟩
  · simp [Value.cells] at hcs
    obtain ⟨rfl, rfl, rfl⟩ := hcs
    have key : ∀ i, i < n → ∃ s : ByteArray, W.cell? (x.add i) = some (.string s) ∧ s.size ≤ 9223372036854775807 := fun i hin => by
      obtain ⟨h1, h2⟩ := hi i (by rw [hmm]; split <;> omega)
      obtain ⟨s, e, _, w⟩ := DataW.trod_string Tryd.underlying9 h2
      have e' : V i = .string s := by simpa using e
      rw [e'] at h1
      exact ⟨s, h1, by omega⟩
    obtain ⟨ss, hss, hp⟩ := strs_choice n key
    refine ⟨ss, hss, by omega, fun s hs => ?_, fun h0 => ?_⟩
    · obtain ⟨i, hi', rfl⟩ := List.mem_iff_getElem.1 hs
      have := (hp i (by omega)).2
      rwa [List.getD_eq_getElem?_getD, List.getElem?_eq_getElem hi'] at this
    · obtain ⟨b, off, spot⟩ := x
      have hspot : spot = none := by
        have := World.cell?_spot (hp 0 h0).1
        simpa [Addr.add] using this
      subst hspot
      refine ⟨b, off, rfl, ?_, fun i hin => ?_⟩
      · have := cell_lt (hp 0 h0).1
        simpa [Addr.add] using this
      · have := (hp i hin).1
        rwa [addr_add] at this

/-! The plain law -/
def allL (ret : Bool) (ps : List (List UInt8)) : List UInt8 := ps.flatMap fun p => p ++ (if ret then [13] else []) ++ [10]
theorem allL_snoc (ret : Bool) (ps : List (List UInt8)) (p : List UInt8) : allL ret (ps ++ [p]) = allL ret ps ++ (p ++ (if ret then [13] else []) ++ [10]) := by simp [allL]
theorem plain_not {p : List UInt8} (h : plainL p = true) {b : UInt8} (hb : ctl b = true) : b ∉ p := fun hm => by
  unfold plainL at h
  rw [List.all_eq_true] at h
  have := h b hm
  rw [hb] at this
  cases this
theorem trim_plain {p : List UInt8} (h : plainL p = true) : trimCR p = p := by
  unfold trimCR
  rw [if_neg]
  intro e
  obtain ⟨ys, rfl⟩ := List.getLast?_eq_some_iff.1 e
  exact plain_not h (b := 13) (by decide) (by simp)
theorem trim_ret {p : List UInt8} : trimCR (p ++ [13]) = p := by
  unfold trimCR
  rw [if_pos (by simp)]
  simp
theorem lines_all (ret : Bool) : ∀ (ps : List (List UInt8)), (∀ p ∈ ps, plainL p = true) → linesL (allL ret ps) = ps.filter keepL
  | [], _ => rfl
  | p :: ps, h => by
    have hp := h p List.mem_cons_self
    have ih := lines_all ret ps (fun q hq => h q (List.mem_cons_of_mem _ hq))
    have e : allL ret (p :: ps) = (p ++ (if ret then [13] else [])) ++ 10 :: allL ret ps := by simp [allL]
    have hn : (10 : UInt8) ∉ p ++ (if ret then [13] else []) := by
      intro hm
      rcases List.mem_append.1 hm with h1 | h1
      · exact plain_not hp (b := 10) (by decide) h1
      · cases ret
        · cases h1
        · simp at h1
    rw [e, linesL_some _ hn, ih]
    have ht : trimCR (p ++ (if ret then [13] else [])) = p := by
      cases ret
      · simpa using trim_plain hp
      · simpa using trim_ret
    rw [ht, List.filter_cons]
    cases keepL p <;> simp
def plsOf (ss : List ByteArray) : List (List UInt8) := ss.map fun s => plS s.data.toList
theorem plsOf_plain (ss : List ByteArray) : ∀ p ∈ plsOf ss, plainL p = true := by
  intro p hp
  obtain ⟨s, _, rfl⟩ := List.mem_map.1 hp
  exact plS_plain _
theorem allL_len (ret : Bool) (ss : List ByteArray) : (allL ret (plsOf ss)).length ≤ 62 * ss.length := by
  induction ss with
  | nil => simp [allL, plsOf]
  | cons s ss ih =>
    have e : allL ret (plsOf (s :: ss)) = (plS s.data.toList ++ (if ret then [13] else []) ++ [10]) ++ allL ret (plsOf ss) := by simp [allL, plsOf]
    rw [e]
    have := plS_len s.data.toList
    cases ret <;> simp <;> omega
theorem take_snocS (ss : List ByteArray) (j : Nat) (h : j < ss.length) : plsOf (ss.take (j + 1)) = plsOf (ss.take j) ++ [plS (ss.getD j default).data.toList] := by
  rw [List.take_succ_eq_append_getElem h]
  simp only [plsOf, List.map_append, List.map_cons, List.map_nil]
  rw [List.getD_eq_getElem?_getD, List.getElem?_eq_getElem h]
  rfl
/-- A string that is not empty: its first byte. -/
theorem first_byte (b0 : UInt8) (P : List UInt8) (z : ByteArray) (hz : (⟨(b0 :: P).toArray⟩ : ByteArray) = z) (h : 0 < z.size) : z[0].toNat = b0.toNat := by
  subst hz
  rfl

theorem str_form {w : World} {base : Nat} {v : Value} {n : Nat} {xs : List Value} (h : w.ownsRow base 9 1 v n xs) : ∃ A c, v = .slice A n c := by
  rcases h.2 with ⟨rfl, h0⟩ | ⟨g, cap, _, rfl, _⟩
  · exact ⟨none, 0, by rw [h0]⟩
  · exact ⟨_, _, rfl⟩
set_option maxRecDepth 100000 in
set_option maxHeartbeats 2000000 in
theorem lexLines_walk (a : Option Addr) (n c : Nat) (ret : Bool) (w : World) (hx : StrsT w a n) :
    Calls Tryd.prog 5 #[.slice a n c, .bool ret] w fun e w' => e = .returned (.bool true) ∧ Below w.heap.size w w' := by
  obtain ⟨ss, hsl, hnm, hsz, hat⟩ := hx
  have HSZ := Lib.hid hsz
  have HSL := Lib.hid hsl
  clear hsz hsl
  obtain ⟨i0, hi0, hz0, hz1, hz2⟩ := info_parts info_str
  go_enter Tryd.func5, Tryd.ntmps5
  go_wp2_with fail
  refine (examples_any w).mono ?_
  rintro e w1 ⟨rfl, b1⟩
  go_wp2_with fail
  go_loopw [6, 7, 8] (fun y v i wr => ∃ (k m : Nat) (z : ByteArray) (A : Option Addr) (cc : Nat), k ≤ n ∧ k ≤ 12 ∧ m ≤ k ∧ i = .int .i64 k ∧ y = .string z ∧ Hid (z.data.toList = allL ret (plsOf (ss.take k))) ∧ v = .slice A m cc ∧ wr.ownsRow w.heap.size 9 1 (.slice A m cc) m (strs ((plsOf (ss.take k)).filter keepL)) ∧ Below w.heap.size w wr) (fun _ _ i _ => n - (intOf i).toNat)
  case atStart => exact ⟨0, 0, ⟨#[]⟩, none, 0, Nat.zero_le _, Nat.zero_le _, Nat.zero_le _, rfl, rfl, Lib.hid rfl, rfl, World.ownsRow_nil _ _ _ _, b1⟩
  case round =>
    obtain ⟨k, m, z, A, cc, hk, h12, hmk, rfl, rfl, hZ, rfl, hO, hB⟩ := hrel
    have hBs := hB.size
    by_cases hc : k < n ∧ k < 12
    · obtain ⟨b, off, rfl, hb, hcell⟩ := hat (by omega)
      have x0 := (hB.cell (p := ⟨b, off + k, none⟩) hb).trans (hcell k hc.1)
      have hxs : (ss.getD k default).size ≤ 9223372036854775807 := by
        have hkl : k < ss.length := by rw [HSL.out]; exact hc.1
        rw [List.getD_eq_getElem?_getD, List.getElem?_eq_getElem hkl]
        exact HSZ.out _ (List.getElem_mem _)
      have HTS := Lib.hid (take_snocS ss k (by rw [HSL.out]; exact hc.1))
      have c1 : (k : Int) < n := by omega
      have c2 : (k : Int) < 12 := by omega
      clear hcell
      generalize ss.getD k default = x at *
      have HP := Lib.hid (fun W => plain_law x W hxs)
      have hPp := Lib.hid (plS_plain x.data.toList)
      have hPl := plS_len x.data.toList
      generalize plS x.data.toList = P at *
      go_upto_region 10 with (go_at_call 20; refine (HP.out _).mono ?_; rintro e w3 ⟨rfl, b3⟩)
      have hO3 := hO.kept (only_of_below b3 none) (by rcases Value.ownBlock (.slice A m cc) with _ | q; exact .inl rfl; exact .inr (by simp))
      have hB3 := bstep b3 hB
      have hBs3 := hB3.size
      clear x0 hO hB b3 HP hBs
      obtain ⟨y, hy⟩ : ∃ y : ByteArray, (⟨P.toArray⟩ : ByteArray) = y := ⟨_, rfl⟩
      have HY := Lib.hid hy
      rw [hy]
      have hzs : z.size ≤ 744 := by
        have h1 := allL_len ret (ss.take k)
        rw [← hZ.out] at h1
        have h2 : z.data.toList.length = z.size := by simp
        rw [List.length_take] at h1
        omega
      have hys : y.size ≤ 60 := by
        have h1 := hPl
        rw [← hy]
        exact h1
      have hZn : Hid (∀ r : ByteArray, r.data.toList = (if ret then [13] else []) → (z ++ y ++ r ++ ⟨#[10]⟩).data.toList = allL ret (plsOf (ss.take (k + 1)))) := Lib.hid (fun r hr => by
        rw [str_app, str_app, str_app, HTS.out, allL_snoc, hZ.out, hr, ← HY.out]
        simp)
      have hZ1 : Hid (ret = true → (z ++ y ++ ⟨#[13]⟩ ++ ⟨#[10]⟩).data.toList = allL ret (plsOf (ss.take (k + 1)))) := Lib.hid (fun h => hZn.out ⟨#[13]⟩ (by rw [h]; rfl))
      have hZ0 : Hid (ret = false → (z ++ y ++ ⟨#[10]⟩).data.toList = allL ret (plsOf (ss.take (k + 1)))) := Lib.hid (fun h => by
        have := hZn.out ⟨#[]⟩ (by rw [h]; rfl)
        rw [str_app, str_app, str_app] at this
        rw [str_app, str_app]
        simpa using this)
      clear hZn
      cases P with
      | nil =>
        have hk0 : Hid ((plsOf (ss.take (k + 1))).filter keepL = (plsOf (ss.take k)).filter keepL) := Lib.hid (by
          rw [HTS.out, List.filter_append]
          simp [keepL])
        have y1 : y.toList.isEmpty = true := by rw [← hy, Lib.toList_data]; rfl
        have y2 : y.toList = [] := by rw [← hy, Lib.toList_data]
        clear hy
        cases ret
        · go_wp2_with fail
          exact ⟨⟨k + 1, m, _, A, cc, by omega, by omega, by omega, by go_num, rfl, Lib.hid (hZ0.out rfl), rfl, by rw [hk0.out]; exact hO3, hB3⟩, by simp [intOf]; omega⟩
        · go_wp2_with fail
          exact ⟨⟨k + 1, m, _, A, cc, by omega, by omega, by omega, by go_num, rfl, Lib.hid (hZ1.out rfl), rfl, by rw [hk0.out]; exact hO3, hB3⟩, by simp [intOf]; omega⟩
      | cons b0 P0 =>
        have y0 : 0 < y.size := by rw [← hy]; simp [ByteArray.size]
        have y1 : y.toList.isEmpty = false := by rw [← hy, Lib.toList_data]; rfl
        have y2 : ¬ y.toList = [] := by rw [← hy, Lib.toList_data]; simp
        have y3 : (y[0]'y0).toNat = b0.toNat := first_byte b0 P0 y hy y0
        have y4 : (0 : Int) < y.size := by omega
        have hst : Hid (strs [b0 :: P0] = [Value.string y]) := Lib.hid (by rw [← hy]; rfl)
        have h35 : ((b0.toNat : Int) != 35) = keepL (b0 :: P0) := by
          have h1 : (b0 == 35) = decide (b0.toNat = 35) := u8_eq b0 35 (by omega)
          unfold keepL
          rw [Bool.eq_iff_iff]
          simp
          constructor
          · intro h e; subst e; exact h rfl
          · intro h e; exact h (UInt8.toNat_inj.1 (by rw [show (35 : UInt8).toNat = 35 from rfl]; omega))
        have hkk : Hid (∀ v, keepL (b0 :: P0) = v → (plsOf (ss.take (k + 1))).filter keepL = (plsOf (ss.take k)).filter keepL ++ (if v then [b0 :: P0] else [])) := Lib.hid (fun v hv => by
          rw [HTS.out, List.filter_append, List.filter_cons, hv]
          cases v <;> simp)
        clear hy
        generalize b0.toNat = bv at *
        cases hkp : keepL (b0 :: P0)
        · have hk0 := Lib.hid (hkk.out false hkp)
          rw [hkp] at h35
          clear hkp hkk
          cases ret
          · go_wp2_with fail
            exact ⟨⟨k + 1, m, _, A, cc, by omega, by omega, by omega, by go_num, rfl, Lib.hid (hZ0.out rfl), rfl, by rw [hk0.out]; simpa using hO3, hB3⟩, by simp [intOf]; omega⟩
          · go_wp2_with fail
            exact ⟨⟨k + 1, m, _, A, cc, by omega, by omega, by omega, by go_num, rfl, Lib.hid (hZ1.out rfl), rfl, by rw [hk0.out]; simpa using hO3, hB3⟩, by simp [intOf]; omega⟩
        · have hk0 := Lib.hid (hkk.out true hkp)
          rw [hkp] at h35
          clear hkp hkk
          cases ret
          · go_wp2_with (at_builtin; refine wpList_append_own_at _ rfl _ _ 31 rfl w.heap.size 9 i0 _ 1 16 Tryd.underlying31 hi0 hz0 hz1 hz2 rfl (by omega) (.slice A m cc) m _ rfl (hO3.alloc _) ⟨w3.heap.size, 0, none⟩ 1 1 [.string y] rfl rfl (cell_one_new _ _ _) (by simp [Value.oneCell']) (by simp only [maxLen]; omega) (by omega) (by simp; omega) ?_; intro v' w5 hown5 hG5 hnil5 hat5; obtain ⟨A5, c5, rfl⟩ := str_form hown5)
            exact ⟨⟨k + 1, m + 1, _, A5, c5, by omega, by omega, by omega, by go_num, rfl, Lib.hid (hZ0.out rfl), rfl, by rw [hk0.out, if_pos rfl, strs_app, hst.out]; exact hown5, bgrown (balloc hB3 _) hG5 (fun q hq => (hO3.lt q hq).1)⟩, by simp [intOf]; omega⟩
          · go_wp2_with (at_builtin; refine wpList_append_own_at _ rfl _ _ 31 rfl w.heap.size 9 i0 _ 1 16 Tryd.underlying31 hi0 hz0 hz1 hz2 rfl (by omega) (.slice A m cc) m _ rfl (hO3.alloc _) ⟨w3.heap.size, 0, none⟩ 1 1 [.string y] rfl rfl (cell_one_new _ _ _) (by simp [Value.oneCell']) (by simp only [maxLen]; omega) (by omega) (by simp; omega) ?_; intro v' w5 hown5 hG5 hnil5 hat5; obtain ⟨A5, c5, rfl⟩ := str_form hown5)
            exact ⟨⟨k + 1, m + 1, _, A5, c5, by omega, by omega, by omega, by go_num, rfl, Lib.hid (hZ1.out rfl), rfl, by rw [hk0.out, if_pos rfl, strs_app, hst.out]; exact hown5, bgrown (balloc hB3 _) hG5 (fun q hq => (hO3.lt q hq).1)⟩, by simp [intOf]; omega⟩
    · have hzs : z.size ≤ 744 := by
        have h1 := allL_len ret (ss.take k)
        rw [← hZ.out] at h1
        have h2 : z.data.toList.length = z.size := by simp
        rw [List.length_take] at h1
        omega
      have hlin : Hid (linesL z.data.toList = (plsOf (ss.take k)).filter keepL) := Lib.hid (by rw [hZ.out]; exact lines_all ret _ (plsOf_plain _))
      have HL := Lib.hid (fun W => lines_call z W (by omega))
      have hend : (¬ (k : Int) < n) ∨ ((k : Int) < n ∧ ¬ (k : Int) < 12) := by omega
      clear hZ hat
      rcases hend with c1 | ⟨c1, c2⟩
      all_goals
        go_wp2_with fail
        refine (HL.out _).mono ?_
        rintro e w4 ⟨A4, n4, c4, rfl, h4, b4⟩
        rw [hlin.out] at h4
        obtain ⟨R4, hn4⟩ := strRow_of h4
        obtain ⟨R, hn⟩ := strRow_of hO
        have e1 : n4 = m := by rw [← R4.len, R.len]
        subst e1
        have hB4 := bstep b4 hB
        have HS := Lib.hid (same_call A4 A n4 c4 cc _ w4 R4 (R.step b4) (by omega) hn4 hn)
        clear h4 hO R4 R b4
        go_wp2_with (go_at_call 13; refine HS.out.mono ?_; rintro e w5 ⟨rfl, b5⟩)
        go_ret
        exact ⟨rfl, bstep b5 hB4⟩
theorem lexLines_row (a : Option Addr) (n c : Nat) (ret : Bool) (w : World) (hx : StrsT w a n) :
    Calls Tryd.prog 5 #[.slice a n c, .bool ret] w fun e w' => e = .returned (.bool true) ∧ Below w.heap.size w w' := lexLines_walk a n c ret w hx
end Go.Proofs.YtoaohohnaifjdaaDoor
