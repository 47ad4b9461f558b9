/- LexWords. -/
import Derived.Test.YtoaohohnaifjdaaDoorLexI
namespace Go.Proofs.YtoaohohnaifjdaaDoor
open Go.RowKit
set_option linter.unusedVariables false
set_option linter.unusedSimpArgs false

/-- Words, escaped, with a stop between each two. -/
def allW (st : UInt8) : List (List UInt8) → List UInt8
  | [] => []
  | w :: ws => escape w ++ (if ws.isEmpty then [] else st :: allW st ws)
theorem allW_snoc (st : UInt8) : ∀ (ws : List (List UInt8)) (w : List UInt8), allW st (ws ++ [w]) = allW st ws ++ (if ws.isEmpty then [] else [st]) ++ escape w
  | [], w => by simp [allW]
  | v :: ws, w => by
    show escape v ++ (if (ws ++ [w]).isEmpty then [] else st :: allW st (ws ++ [w])) = _
    rw [allW_snoc st ws w]
    cases ws with
    | nil => simp [allW]
    | cons u us => simp [allW]
theorem cut_word (st : UInt8) (hst : inB stopS st = true) (w : List UInt8) (ws : List (List UInt8)) (hp : plainL w = true) :
    cutL (allW st (w :: ws)) [st] = ⟨w, allW st ws, if ws.isEmpty then 0 else st, 0⟩ := by
  have hs : ∀ b, inB [st] b = true → esc b = true ∧ b ≠ 92 := fun b hb => by
    unfold inB at hb
    simp only [List.contains_cons, List.contains_nil, Bool.or_false, beq_iff_eq] at hb
    subst hb
    exact stop_ok hst
  have h92 : inB [st] 92 = false := by
    cases h : inB [st] 92
    · rfl
    · exact absurd rfl (hs 92 h).2
  unfold cutL
  rw [h92]
  show cutF [st] false [] (escape w ++ _) = _
  have h1 := cutF_escape hs w [] (if ws.isEmpty then [] else st :: allW st ws) hp
  rw [h1, List.nil_append]
  cases ws with
  | nil =>
    simp only [List.isEmpty_nil, if_true]
    rw [cutF_end]
    rfl
  | cons u us =>
    simp only [List.isEmpty_cons]
    exact cutF_stop (by simp [inB]) (stop_in hst) (stop_ok hst).2 w _
theorem allW_len (st : UInt8) (ss : List ByteArray) : (allW st (plsOf ss)).length ≤ 121 * ss.length := by
  induction ss with
  | nil => simp [allW, plsOf]
  | cons s ss ih =>
    have e : allW st (plsOf (s :: ss)) = escape (plS s.data.toList) ++ (if (plsOf ss).isEmpty then [] else st :: allW st (plsOf ss)) := rfl
    rw [e]
    have h1 := plS_len s.data.toList
    have h2 := (escape_len (plS s.data.toList)).2
    rw [List.length_append, List.length_cons]
    split
    · simp; omega
    · simp; omega
theorem plsOf_len (ss : List ByteArray) : (plsOf ss).length = ss.length := by simp [plsOf]
theorem drop_consL (ws : List (List UInt8)) (j : Nat) (h : j < ws.length) : ws.drop j = ws.getD j [] :: ws.drop (j + 1) := by
  rw [List.drop_eq_getElem_cons h, List.getD_eq_getElem?_getD, List.getElem?_eq_getElem h]
  rfl

set_option maxRecDepth 100000 in
set_option maxHeartbeats 4000000 in
theorem lexWords_at (a : Option Addr) (n c : Nat) (wh : Nat) (st : UInt8) (w : World) (hx : StrsT w a n) (hwh : wh ≤ 255) (hst : inB stopS st = true) (hix : (wh % 3 = 0 ∧ st = 44) ∨ (wh % 3 = 1 ∧ st = 61) ∨ (wh % 3 = 2 ∧ st = 32)) :
    Calls Tryd.prog 7 #[.slice a n c, .int .u8 wh] w fun e w' => e = .returned (.bool true) ∧ Below w.heap.size w w' := by
  obtain ⟨ss, hsl, hnm, hsz, hat⟩ := hx
  have HSZ := Lib.hid hsz
  have HSL := Lib.hid hsl
  clear hsz hsl
  obtain ⟨i0, hi0, hz0, hz1, hz2⟩ := info_parts info_str
  have hix2 : ((wh : Int) % 3 = 0 ∧ st = 44) ∨ ((wh : Int) % 3 = 1 ∧ st = 61) ∨ ((wh : Int) % 3 = 2 ∧ st = 32) := by
    rcases hix with ⟨h, h2⟩ | ⟨h, h2⟩ | ⟨h, h2⟩
    · exact .inl ⟨by omega, h2⟩
    · exact .inr (.inl ⟨by omega, h2⟩)
    · exact .inr (.inr ⟨by omega, h2⟩)
  clear hix
  obtain ⟨v, hv⟩ : ∃ v : Nat, st.toNat = v := ⟨_, rfl⟩
  have hv0 : ((0 : Int) == (v : Int)) = false := by
    have h := stop_in hst
    have h2 := ctl_nat st
    rw [h, hv] at h2
    simp at h2
    simp
    omega
  have hcv := fun (W : World) (g : Nat) (h : Blk W g 5 #[.int .u8 (v : Int)]) => conv_blk W g st (by rw [hv]; exact h)
  have HCV := Lib.hid hcv
  clear hcv
  have hsel : ((wh : Int) % 3 = 0 ∧ ((⟨#[44, 61, 32]⟩ : ByteArray)[0]'(by decide)).toNat = v) ∨ ((wh : Int) % 3 = 1 ∧ ((⟨#[44, 61, 32]⟩ : ByteArray)[1]'(by decide)).toNat = v) ∨ ((wh : Int) % 3 = 2 ∧ ((⟨#[44, 61, 32]⟩ : ByteArray)[2]'(by decide)).toNat = v) := by
    rcases hix2 with ⟨h, h2⟩ | ⟨h, h2⟩ | ⟨h, h2⟩
    · exact .inl ⟨h, by rw [← hv, h2]; rfl⟩
    · exact .inr (.inl ⟨h, by rw [← hv, h2]; rfl⟩)
    · exact .inr (.inr ⟨h, by rw [← hv, h2]; rfl⟩)
  have HST := Lib.hid hst
  have HV2 := Lib.hid hv
  clear hix2 hv hst
  go_enter Tryd.func7, Tryd.ntmps7
  go_wp2_with fail
  refine (examples_any w).mono ?_
  rintro e w1 ⟨rfl, b1⟩
  go_upto_region 4 with fail
  go_cut [6] from 18 (fun x wx => x = .int .u8 (v : Int) ∧ wx = w1)
  case first =>
    rcases hsel with ⟨h, hv⟩ | ⟨h, hv⟩ | ⟨h, hv⟩
    all_goals
      have HV := Lib.hid hv
      clear hv
      go_wp2_with fail
      go_meet
      exact ⟨by rw [HV.out], rfl⟩
  case rest =>
    obtain ⟨rfl, rfl⟩ := hcut
    clear hsel
    go_wp2_with fail
    go_loopw [7, 8, 9] (fun y vv i wr => ∃ (k : Nat) (z : ByteArray) (A : Option Addr) (cc : Nat), k ≤ n ∧ k ≤ 6 ∧ i = .int .i64 k ∧ y = .string z ∧ Hid (z.data.toList = allW st (plsOf (ss.take k))) ∧ vv = .slice A k cc ∧ wr.ownsRow w.heap.size 9 1 (.slice A k cc) k (strs (plsOf (ss.take k))) ∧ Below w.heap.size w wr) (fun _ _ i _ => n - (intOf i).toNat)
    case atStart => exact ⟨0, ⟨#[]⟩, none, 0, Nat.zero_le _, Nat.zero_le _, rfl, rfl, Lib.hid rfl, rfl, World.ownsRow_nil _ _ _ _, b1⟩
    case round =>
      obtain ⟨k, z, A, cc, hk, h6, rfl, rfl, hZ, rfl, hO, hB⟩ := hrel
      have hBs := hB.size
      have hzs : z.size ≤ 726 := by
        have h1 := allW_len st (ss.take k)
        rw [← hZ.out] at h1
        have h2 : z.data.toList.length = z.size := by simp
        rw [List.length_take] at h1
        omega
      by_cases hc : k < n ∧ k < 6
      · obtain ⟨b, off, rfl, hb, hcell⟩ := hat (by omega)
        have x0 := hcell k hc.1
        have hxs : (ss.getD k default).size ≤ 9223372036854775807 := by
          have hkl : k < ss.length := by rw [HSL.out]; exact hc.1
          rw [List.getD_eq_getElem?_getD, List.getElem?_eq_getElem hkl]
          exact HSZ.out _ (List.getElem_mem _)
        have HTS := Lib.hid (take_snocS ss k (by rw [HSL.out]; exact hc.1))
        have hemp : Hid ((plsOf (ss.take k)).isEmpty = decide (k = 0)) := Lib.hid (by
          have e : (plsOf (ss.take k)).length = k := by rw [plsOf_len, List.length_take, HSL.out]; omega
          cases hp : plsOf (ss.take k) with
          | nil => rw [hp] at e; simp at e; simp [← e]
          | cons p ps => rw [hp] at e; simp at e; simp; omega)
        have c1 : (k : Int) < n := by omega
        have c2 : (k : Int) < 6 := by omega
        clear hcell
        generalize ss.getD k default = x at *
        have HP := Lib.hid (fun W => plain_law x W hxs)
        have hPl := plS_len x.data.toList
        generalize plS x.data.toList = P at *
        have HE : Hid (∀ W, Calls Tryd.prog 16 #[.string ⟨P.toArray⟩] W fun e w' => e = .returned (.string ⟨(escape P).toArray⟩) ∧ Below W.heap.size W w') := Lib.hid (fun W => by
          refine (escape_call ⟨P.toArray⟩ W ?_).mono ?_
          · have e1 : (⟨P.toArray⟩ : ByteArray).size = P.length := rfl
            rw [e1]; omega
          · rintro e w' ⟨rfl, h⟩
            exact ⟨rfl, h⟩)
        have hel := (escape_len P).2
        have hys : (⟨(escape P).toArray⟩ : ByteArray).size ≤ 120 := by show (escape P).length ≤ 120; omega
        obtain ⟨y, hy⟩ : ∃ y : ByteArray, (⟨P.toArray⟩ : ByteArray) = y := ⟨_, rfl⟩
        obtain ⟨ye, hye⟩ : ∃ ye : ByteArray, (⟨(escape P).toArray⟩ : ByteArray) = ye := ⟨_, rfl⟩
        have hstr : Hid (strs (plsOf (ss.take (k + 1))) = strs (plsOf (ss.take k)) ++ [Value.string y]) := Lib.hid (by rw [HTS.out, strs_app, ← hy]; rfl)
        have hZn : Hid (∀ r : ByteArray, r.data.toList = (if k = 0 then [] else [st]) → (z ++ r ++ ye).data.toList = allW st (plsOf (ss.take (k + 1)))) := Lib.hid (fun r hr => by
          rw [str_app, str_app, HTS.out, allW_snoc, hZ.out, hr, hemp.out, ← hye]
          by_cases h0 : k = 0 <;> simp [h0])
        rw [hy] at HP HE
        rw [hye] at HE hys
        clear hy hye hel hPl hZ
        rcases Nat.eq_zero_or_pos k with h0 | h0
        · have g0 : ¬ (0 : Int) < k := by omega
          have hZ' : Hid ((z ++ ye).data.toList = allW st (plsOf (ss.take (k + 1)))) := Lib.hid (by
            have := hZn.out ⟨#[]⟩ (by rw [h0]; rfl)
            rw [str_app, str_app] at this
            rw [str_app]
            simpa using this)
          clear h0 hZn
          have e0 := (hB.cell (p := ⟨b, off + k, none⟩) hb).trans x0
          go_wp2_with fail
          refine (HP.out _).mono ?_
          rintro e w3 ⟨rfl, b3⟩
          have hO3 := hO.kept (only_of_below b3 none) (by rcases Value.ownBlock (.slice A k cc) with _ | q; exact .inl rfl; exact .inr (by simp))
          have hB3 := bstep b3 hB
          clear e0 hO hB b3
          go_wp2_with fail
          refine (HE.out _).mono ?_
          rintro e w4 ⟨rfl, b4⟩
          have hO4 := hO3.kept (only_of_below b4 none) (by rcases Value.ownBlock (.slice A k cc) with _ | q; exact .inl rfl; exact .inr (by simp))
          have hB4 := bstep b4 hB3
          clear hO3 hB3 b4
          have e0 := (hB4.cell (p := ⟨b, off + k, none⟩) hb).trans x0
          go_wp2_with fail
          refine (HP.out _).mono ?_
          rintro e w5 ⟨rfl, b5⟩
          have hO5 := hO4.kept (only_of_below b5 none) (by rcases Value.ownBlock (.slice A k cc) with _ | q; exact .inl rfl; exact .inr (by simp))
          have hB5 := bstep b5 hB4
          clear hO4 hB4 b5 e0
          have hBs5 := hB5.size
          go_wp2_with (at_builtin; refine wpList_append_own_at _ rfl _ _ 31 rfl w.heap.size 9 i0 _ 1 16 Tryd.underlying31 hi0 hz0 hz1 hz2 rfl (by omega) (.slice A k cc) k _ rfl (hO5.alloc _) ⟨w5.heap.size, 0, none⟩ 1 1 [.string y] rfl rfl (cell_one_new _ _ _) (by simp [Value.oneCell']) (by simp only [maxLen]; omega) (by omega) (by simp; omega) ?_; intro v' w6 hown6 hG6 hnil6 hat6; obtain ⟨A6, c6, rfl⟩ := str_form hown6)
          exact ⟨⟨k + 1, _, A6, c6, by omega, by omega, by go_num, rfl, hZ', rfl, by rw [hstr.out]; exact hown6, bgrown (balloc hB5 _) hG6 (fun q hq => (hO5.lt q hq).1)⟩, by simp [intOf]; omega⟩
        · have g0 : (0 : Int) < k := by omega
          have hZ' : Hid ((z ++ ⟨#[st]⟩ ++ ye).data.toList = allW st (plsOf (ss.take (k + 1)))) := Lib.hid (hZn.out ⟨#[st]⟩ (by rw [if_neg (by omega)]))
          clear hZn
          have hcc := HCV.out _ _ (Blk.new wr 5 #[.int .u8 (v : Int)])
          have hB2 := balloc hB (.cells #[.int .u8 (v : Int)] 5)
          have hO2 := hO.alloc (.cells #[.int .u8 (v : Int)] 5)
          have e0 := (hB2.cell (p := ⟨b, off + k, none⟩) hb).trans x0
          go_wp2_with fail
          refine (HP.out _).mono ?_
          rintro e w3 ⟨rfl, b3⟩
          have hO3 := hO2.kept (only_of_below b3 none) (by rcases Value.ownBlock (.slice A k cc) with _ | q; exact .inl rfl; exact .inr (by simp))
          have hB3 := bstep b3 hB2
          clear e0 hO hB b3 hB2 hO2 hcc
          go_wp2_with fail
          refine (HE.out _).mono ?_
          rintro e w4 ⟨rfl, b4⟩
          have hO4 := hO3.kept (only_of_below b4 none) (by rcases Value.ownBlock (.slice A k cc) with _ | q; exact .inl rfl; exact .inr (by simp))
          have hB4 := bstep b4 hB3
          clear hO3 hB3 b4
          have e0 := (hB4.cell (p := ⟨b, off + k, none⟩) hb).trans x0
          go_wp2_with fail
          refine (HP.out _).mono ?_
          rintro e w5 ⟨rfl, b5⟩
          have hO5 := hO4.kept (only_of_below b5 none) (by rcases Value.ownBlock (.slice A k cc) with _ | q; exact .inl rfl; exact .inr (by simp))
          have hB5 := bstep b5 hB4
          clear hO4 hB4 b5 e0
          have hBs5 := hB5.size
          go_wp2_with (at_builtin; refine wpList_append_own_at _ rfl _ _ 31 rfl w.heap.size 9 i0 _ 1 16 Tryd.underlying31 hi0 hz0 hz1 hz2 rfl (by omega) (.slice A k cc) k _ rfl (hO5.alloc _) ⟨w5.heap.size, 0, none⟩ 1 1 [.string y] rfl rfl (cell_one_new _ _ _) (by simp [Value.oneCell']) (by simp only [maxLen]; omega) (by omega) (by simp; omega) ?_; intro v' w6 hown6 hG6 hnil6 hat6; obtain ⟨A6, c6, rfl⟩ := str_form hown6)
          exact ⟨⟨k + 1, _, A6, c6, by omega, by omega, by go_num, rfl, hZ', rfl, by rw [hstr.out]; exact hown6, bgrown (balloc hB5 _) hG6 (fun q hq => (hO5.lt q hq).1)⟩, by simp [intOf]; omega⟩
      · have hkl : k ≤ n := hk
        obtain ⟨ws, hws⟩ : ∃ ws, plsOf (ss.take k) = ws := ⟨_, rfl⟩
        have hwl : ws.length = k := by rw [← hws, plsOf_len, List.length_take, HSL.out]; omega
        have HWP : Hid (∀ p ∈ ws, plainL p = true) := Lib.hid (by rw [← hws]; exact plsOf_plain _)
        have HWL : Hid (∀ i, (allW st (ws.drop i)).length ≤ 726) := Lib.hid (fun i => by
          have e : ws.drop i = plsOf ((ss.take k).drop i) := by rw [← hws]; simp [plsOf]
          have h1 := allW_len st ((ss.take k).drop i)
          rw [← e, List.length_drop, List.length_take] at h1
          omega)
        rw [hws] at hZ hO
        clear hws hat
        obtain ⟨R, hncc⟩ := strRow_of hO
        have hend : (¬ (k : Int) < n) ∨ ((k : Int) < n ∧ ¬ (k : Int) < 6) := by omega
        have HWL2 := Lib.hid hwl
        clear hO hwl hzs
        obtain ⟨wo, rfl⟩ : ∃ wo : World, wo = wr := ⟨_, rfl⟩
        rcases hend with c1 | ⟨c1, c2⟩
        all_goals
          go_wp2_with fail
          go_loopw [7, 10] (fun y i wv => ∃ (q : Nat) (z' : ByteArray), q ≤ k ∧ i = .int .i64 q ∧ y = .string z' ∧ Hid (z'.data.toList = allW st (ws.drop q)) ∧ Below wo.heap.size wo wv) (fun _ i _ => k - (intOf i).toNat)
          case atStart => exact ⟨0, z, Nat.zero_le _, rfl, rfl, Lib.hid hZ.out, Below.refl _ _⟩
          case round =>
            obtain ⟨q, z', hq, rfl, rfl, hz', hBq⟩ := hrel
            by_cases hqk : q < k
            · obtain ⟨b, off, rfl, hb, hcell⟩ := R.at_ (by omega)
              have x0 := (hBq.cell (p := ⟨b, off + q, none⟩) hb).trans (hcell q hqk)
              have hbr : b < wr.heap.size := Nat.lt_of_lt_of_le hb hBq.size
              clear hcell
              have hdc := drop_consL ws q (by rw [HWL2.out]; exact hqk)
              have hmem : ws.getD q [] ∈ ws := by
                have h1 : q < ws.length := by rw [HWL2.out]; exact hqk
                rw [List.getD_eq_getElem?_getD, List.getElem?_eq_getElem h1]
                exact List.getElem_mem _
              have hcut := cut_word st HST.out (ws.getD q []) (ws.drop (q + 1)) (HWP.out _ hmem)
              rw [← hdc, ← hz'.out] at hcut
              have hemp : (ws.drop (q + 1)).isEmpty = decide (¬ q + 1 < k) := by
                have e : (ws.drop (q + 1)).length = k - (q + 1) := by rw [List.length_drop, HWL2.out]
                cases hp : ws.drop (q + 1) with
                | nil => rw [hp] at e; simp at e; simp; omega
                | cons p ps => rw [hp] at e; simp at e; simp; omega
              obtain ⟨xv, hxv, hxv2⟩ : ∃ xv : Nat, ((if (ws.drop (q + 1)).isEmpty then (0 : UInt8) else st).toNat : Int) = (xv : Int) ∧ ((q + 1 < k ∧ xv = v) ∨ (¬ q + 1 < k ∧ xv = 0)) := by
                by_cases h : q + 1 < k
                · refine ⟨v, ?_, .inl ⟨h, rfl⟩⟩
                  rw [hemp, decide_eq_false (by omega)]
                  simp [HV2.out]
                · refine ⟨0, ?_, .inr ⟨h, rfl⟩⟩
                  rw [hemp, decide_eq_true h]
                  rfl
              have hzl : z'.size ≤ 726 := by
                have h1 := HWL.out q
                rw [← hz'.out] at h1
                have h2 : z'.data.toList.length = z'.size := by simp
                omega
              have HC : Hid (∀ W, Calls Tryd.prog 11 #[.string z', .string ⟨#[st]⟩] W fun e w' => e = .returned (.tuple #[.string ⟨(ws.getD q []).toArray⟩, .string ⟨(allW st (ws.drop (q + 1))).toArray⟩, .int .u8 (xv : Int), .int .i64 0]) ∧ Below W.heap.size W w') := Lib.hid (fun W => by
                refine (cut_call z' ⟨#[st]⟩ W (by omega)).mono ?_
                rintro e w' ⟨rfl, h⟩
                refine ⟨?_, h⟩
                have e2 : (⟨#[st]⟩ : ByteArray).data.toList = [st] := rfl
                rw [e2, hcut]
                unfold cutV
                rw [hxv]
                rfl)
              have hcc := HCV.out _ _ (Blk.new wr 5 #[.int .u8 (v : Int)])
              have hBa := balloc hBq (.cells #[.int .u8 (v : Int)] 5)
              have hnew : Hid ((⟨(allW st (ws.drop (q + 1))).toArray⟩ : ByteArray).data.toList = allW st (ws.drop (q + 1))) := Lib.hid rfl
              generalize (⟨(allW st (ws.drop (q + 1))).toArray⟩ : ByteArray) = zn at *
              generalize (⟨(ws.getD q []).toArray⟩ : ByteArray) = yq at *
              have g1 : (q : Int) < k := by omega
              clear hcut hxv hemp hdc hmem
              go_wp2_with fail
              refine (HC.out _).mono ?_
              rintro e w7 ⟨rfl, b7⟩
              have hB7 := bstep b7 hBa
              have x1 := (b7.cell (p := ⟨b, off + q, none⟩) (by simp; omega)).trans (show (wr.alloc (.cells #[.int .u8 (v : Int)] 5)).cell? ⟨b, off + q, none⟩ = some (.string yq) from (World.cell?_alloc_lt _ _ _ hbr).trans x0)
              clear hcc hBa b7 x0
              rcases hxv2 with ⟨h1, rfl⟩ | ⟨h1, rfl⟩
              · have h1' : (q : Int) + 1 < k := by omega
                go_wp2_with fail
                exact ⟨⟨q + 1, zn, by omega, by go_num, rfl, hnew, hB7⟩, by simp [intOf]; omega⟩
              · have h1' : ¬ (q : Int) + 1 < k := by omega
                go_wp2_with fail
                exact ⟨⟨q + 1, zn, by omega, by go_num, rfl, hnew, hB7⟩, by simp [intOf]; omega⟩
            · have hqe : q = k := by omega
              have hd : z'.data.toList = [] := by
                rw [hz'.out, List.drop_of_length_le (by rw [HWL2.out]; omega)]
                rfl
              have y1 : z'.toList.isEmpty = true := by rw [Lib.toList_data, hd]; rfl
              have y2 : z'.toList = [] := by rw [Lib.toList_data, hd]
              have g1 : ¬ (q : Int) < k := by omega
              have hBf := bstep hBq hB
              clear hd hqe
              go_wp2_with fail
              go_ret
              exact ⟨rfl, hBf⟩
theorem lexWords_row (a : Option Addr) (n c : Nat) (wh : Int) (w : World) (hx : StrsT w a n) (hwh : (Lit.int .u8 wh).wf = true) :
    Calls Tryd.prog 7 #[.slice a n c, .int .u8 wh] w fun e w' => e = .returned (.bool true) ∧ Below w.heap.size w w' := by
  have h := bounds_u8 hwh
  obtain ⟨q, rfl⟩ := Int.eq_ofNat_of_zero_le h.1
  have hq : q % 3 = 0 ∨ q % 3 = 1 ∨ q % 3 = 2 := by omega
  rcases hq with h0 | h0 | h0
  · exact lexWords_at a n c q 44 w hx (by omega) (by decide) (.inl ⟨h0, rfl⟩)
  · exact lexWords_at a n c q 61 w hx (by omega) (by decide) (.inr (.inl ⟨h0, rfl⟩))
  · exact lexWords_at a n c q 32 w hx (by omega) (by decide) (.inr (.inr ⟨h0, rfl⟩))
end Go.Proofs.YtoaohohnaifjdaaDoor
