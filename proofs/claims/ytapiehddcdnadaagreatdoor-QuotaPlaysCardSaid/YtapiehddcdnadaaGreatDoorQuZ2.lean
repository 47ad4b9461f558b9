/- The walk of QuotaOf. -/
import Derived.Test.YtapiehddcdnadaaGreatDoorQuZ1
import Derived.Test.YtapiehddcdnadaaGreatDoorQuZw
import Derived.Test.YtapiehddcdnadaaGreatDoorM15
import Derived.Test.YtapiehddcdnadaaGreatDoorM12
import Derived.Deep.RegionHeldLaw
import Derived.Deep.CutBlock
import Derived.Deep.CutRange
namespace Go.Proofs.YtapiehddcdnadaaGreatDoor
open Go.RowKit
set_option linter.unusedVariables false
set_option linter.unusedSimpArgs false

theorem nm_strZ (u : Nat) : strOfNums [(97 + (u : Int))] = nmOf u := by
  unfold nmOf
  rw [Int.natCast_add]
  rfl
theorem conv_letZ {W : World} {g : Nat} {v : Int} (h : Blk W g 5 #[.int .u8 v]) : (convert 68 9 (.slice (some ⟨g, 0, none⟩) 1 1)).run Tryz.prog W = .ok (.string (strOfNums [v])) W :=
  run_convert_bytes_arg (P := Tryz.prog) _ 68 5 Tryz.underlying68 Tryz.underlying5 g 0 1 1 [v] rfl (fun j hj => by
    obtain rfl : j = 0 := by omega
    exact h.cellAt 0 rfl) 9 Tryz.underlying9
theorem strN_size (r : List Int) : (strOfNums r).size = r.length := by
  unfold strOfNums
  simp [ByteArray.size]
theorem str1_sizeZ (v : Int) : (strOfNums [v]).size = 1 := strN_size _
theorem QQ.weak {w0 W w : World} {g : Nat} {q : QS} (h : QQ w0 g q w) (hW : Below W.heap.size W w0) : QQ W g q w := by
  obtain ⟨a, b, c, h⟩ := h
  exact ⟨a, b, c, h.weak hW⟩
theorem RX.facts {W w : World} {g : Nat} {q : QS} (h : RX W g q w) : q.rn.length ≤ 1024 ∧ q.rb.length ≤ 1024 ∧ q.win ≤ 9223372036854775807 ∧ q.seen ≤ 4611686018427387904 := by
  obtain ⟨gn, gb, gt, yn, yb, h, hne⟩ := h
  have h1 := h.now.len
  have h2 := h.bef.len
  have hm : 2 ^ q.b ≤ 1024 := by have := Nat.pow_le_pow_right (n := 2) (by omega) h.now.hi; simpa using this
  exact ⟨by omega, by omega, h.win0.2, h.tm.inv.sn⟩
theorem QQ.facts {W w : World} {g : Nat} {q : QS} (h : QQ W g q w) : q.rn.length ≤ 1024 ∧ q.rb.length ≤ 1024 ∧ q.win ≤ 9223372036854775807 ∧ q.seen ≤ 4611686018427387904 ∧ 1 ≤ q.room := by
  obtain ⟨gn, gb, gt, h⟩ := h
  have h1 := h.now.len
  have h2 := h.bef.len
  have hm : 2 ^ q.b ≤ 1024 := by have := Nat.pow_le_pow_right (n := 2) (by omega) h.now.hi; simpa using this
  exact ⟨by omega, by omega, h.win0.2, h.tm.inv.sn, h.tm.rm.1⟩
theorem fldS_5 (a : Int) (b : Bool) (c d : ByteArray) (e : Int) (A : Option Addr) (n k : Nat) (w : World) : (Instr.field 59 (.agg #[.int .i64 a, .bool b, .string c, .string d, .int .u64 e, .slice A n k]) 5).run Tryz.prog w = .ok (.slice A n k) w := by kernel_rfl
attribute [local go_sem] fldS_5
/-- Names are no longer than may be. -/
def BackQ (q : QS) : Prop := BackInv q.room q.seen q.l
theorem newQ_back {p : PolN} (ok : p.Ok) (win : Int) : BackQ (newQ p win) := BackInv.nil _
theorem back_admit {q : QS} (h : BackQ q) (h0 : 1 ≤ q.room) (key metric : ByteArray) (known full : Bool) : BackQ (admitQ q key metric known full) := by
  unfold admitQ
  split
  · exact h
  · exact BackInv.step h h0 metric 1
theorem told_bd {q : QS} {s : List It} (h : BackQ q) (hT : Told q.l s) (hb : ∀ x ∈ q.l, x.many ≤ 4611686018427387904 ∧ x.over ≤ 4611686018427387904) : Bd s := fun x hx => by
  have hx' := hT.perm.mem_iff.1 hx
  have h1 := hb x hx'
  have h2 := h.sz x hx'
  exact ⟨by omega, by omega, by omega⟩
theorem QQ.bd {W w : World} {g : Nat} {q : QS} (h : QQ W g q w) : ∀ x ∈ q.l, x.many ≤ 4611686018427387904 ∧ x.over ≤ 4611686018427387904 := by
  obtain ⟨gn, gb, gt, h⟩ := h
  obtain ⟨A, n, c, T, _⟩ := h.tm
  exact T.bd
set_option maxRecDepth 100000 in
set_option maxHeartbeats 16000000 in
theorem quotaOf_bad (P : PolN) (ts' : List Int) (p : PolN) (ta : Option Addr) (tn tc : Nat) (own0 : Bool) (a : Option Addr) (n c : Nat) (win : Int) (closed : Bool) (s1 s2 : ByteArray) (seen : Nat) (sa : Option Addr) (sn sc : Nat) (sl : List It) (own : Bool) (how : Int) (a2 : Option Addr) (n2 c2 : Nat) (ys : List Int) (w : World)
    (hT : Tab w) (hWI : ∀ V, Below w.heap.size w V → Calls Tryz.prog 6 #[wishV p ta tn tc own0 a n c] V (WishPost w.heap.size P ts' V)) (hR : rightP P ts' = false) (hwin : win ≤ 9223372036854775807) (hs1 : s1.size ≤ 9223372036854775807) (hs2 : s2.size ≤ 9223372036854775807) (hsn : seen < 18446744073709551616) (hsl : ItRow w sa sn sl) (hsc : sn ≤ sc) (hsm : sn ≤ 4398046511103) (hsb : Bd sl) (hhow : 0 ≤ how ∧ how ≤ 255) (hy : Ints .u8 w a2 n2 ys) (hyl : n2 ≤ 140737488351232) :
    Calls Tryz.prog 4 #[wishV p ta tn tc own0 a n c, stV win closed s1 s2 seen sa sn sc, .bool own, .int .u8 how, .slice a2 n2 c2] w fun e w' => e = .returned (.bool true) ∧ Below w.heap.size w w' := by
  have HT := Lib.hid hT
  have HWI := Lib.hid hWI
  have HY := Lib.hid hy
  have HSL := Lib.hid hsl
  have HSB := Lib.hid hsb
  have HRR := Lib.hid hR
  clear hT hWI hy hsl hsb hR
  unfold wishV at *
  unfold stV
  go_enter Tryz.func4, Tryz.ntmps4
  go_wp2_with fail
  refine (examples_q _ (HT.out.step (balloc (balloc (Below.refl _ _) _) _))).mono ?_
  rintro e w1 ⟨rfl, b1⟩
  have B0 := Blk.step b1 ((Blk.new w 27 #[.int .i64 p.slots, .int .i64 p.low, .int .i64 p.high, .int .i64 p.top, .int .i64 p.sketch, .int .i64 p.fine, .int .i64 p.idle, .int .i64 p.window, .int .i64 p.late, .int .i64 p.future, .slice ta tn tc, .bool own0, .slice a n c]).alloc (.cells #[.int .i64 win, .bool closed, .string s1, .string s2, .int .u64 (seen : Nat), .slice sa sn sc] 59))
  have BS1 := Lib.hid (Blk.step b1 (Blk.newAt (w := w.alloc (.cells #[.int .i64 p.slots, .int .i64 p.low, .int .i64 p.high, .int .i64 p.top, .int .i64 p.sketch, .int .i64 p.fine, .int .i64 p.idle, .int .i64 p.window, .int .i64 p.late, .int .i64 p.future, .slice ta tn tc, .bool own0, .slice a n c] 27)) (g := w.heap.size + 1) (t := 59) (cs := #[.int .i64 win, .bool closed, .string s1, .string s2, .int .u64 (seen : Nat), .slice sa sn sc]) (by simp)))
  have hb1 := Lib.hid (bstep b1 (balloc (balloc (Below.refl w.heap.size w) (.cells #[.int .i64 p.slots, .int .i64 p.low, .int .i64 p.high, .int .i64 p.top, .int .i64 p.sketch, .int .i64 p.fine, .int .i64 p.idle, .int .i64 p.window, .int .i64 p.late, .int .i64 p.future, .slice ta tn tc, .bool own0, .slice a n c] 27)) (.cells #[.int .i64 win, .bool closed, .string s1, .string s2, .int .u64 (seen : Nat), .slice sa sn sc] 59)))
  have C0 := B0.cell
  have L0 := B0.lt
  clear b1
  go_wp2_with fail
  refine (HWI.out w1 hb1.out).mono ?_
  rintro e w2 ⟨A, nP, cP, rfl, hI, b2⟩
  unfold polV
  have HI2 := Lib.hid (hI.step (balloc (Below.refl _ w2) (.cells #[.int .i64 P.slots, .int .i64 P.low, .int .i64 P.high, .int .i64 P.top, .int .i64 P.sketch, .int .i64 P.fine, .int .i64 P.idle, .int .i64 P.window, .int .i64 P.late, .int .i64 P.future, .slice A nP cP] 24)))
  have BS2 := Lib.hid ((Blk.step b2 BS1.out).alloc (.cells #[.int .i64 P.slots, .int .i64 P.low, .int .i64 P.high, .int .i64 P.top, .int .i64 P.sketch, .int .i64 P.fine, .int .i64 P.idle, .int .i64 P.window, .int .i64 P.late, .int .i64 P.future, .slice A nP cP] 24))
  have hb2 := Lib.hid (balloc (bstep b2 hb1.out) (.cells #[.int .i64 P.slots, .int .i64 P.low, .int .i64 P.high, .int .i64 P.top, .int .i64 P.sketch, .int .i64 P.fine, .int .i64 P.idle, .int .i64 P.window, .int .i64 P.late, .int .i64 P.future, .slice A nP cP] 24))
  have hw12 := Lib.hid (Nat.le_trans B0.lt b2.size)
  have hgs2 : Hid (w.heap.size + 1 < w1.heap.size) := Lib.hid BS1.out.lt
  clear C0 L0 B0 hI b2 BS1 hb1 HWI
  go_upto_region 5 with fail
  have BP := Lib.hid (Blk.new w2 24 #[.int .i64 P.slots, .int .i64 P.low, .int .i64 P.high, .int .i64 P.top, .int .i64 P.sketch, .int .i64 P.fine, .int .i64 P.idle, .int .i64 P.window, .int .i64 P.late, .int .i64 P.future, .slice A nP cP])
  generalize (w2.alloc (.cells #[.int .i64 P.slots, .int .i64 P.low, .int .i64 P.high, .int .i64 P.top, .int .i64 P.sketch, .int .i64 P.fine, .int .i64 P.idle, .int .i64 P.window, .int .i64 P.late, .int .i64 P.future, .slice A nP cP] 24)) = w3 at *
  generalize w2.heap.size = gp at *
  have HTI : Hid (∀ V, Below w3.heap.size w3 V → Tiers w.heap.size w1.heap.size V A nP ts') := Lib.hid (fun V hV => HI2.out.step hV)
  have HPV : Hid (∀ V, Below w3.heap.size w3 V → Blk V gp 24 #[.int .i64 P.slots, .int .i64 P.low, .int .i64 P.high, .int .i64 P.top, .int .i64 P.sketch, .int .i64 P.fine, .int .i64 P.idle, .int .i64 P.window, .int .i64 P.late, .int .i64 P.future, .slice A nP cP]) := Lib.hid (fun V hV => Blk.below hV BP.out.lt BP.out)
  have HSV : Hid (∀ V, Below w3.heap.size w3 V → Blk V (w.heap.size + 1) 59 #[.int .i64 win, .bool closed, .string s1, .string s2, .int .u64 (seen : Nat), .slice sa sn sc]) := Lib.hid (fun V hV => Blk.below hV BS2.out.lt BS2.out)
  have CP := BP.out.cell
  have LP := BP.out.lt
  have HRP : Hid (∀ V, Calls Tryz.prog 9 #[(.agg #[.int .i64 P.slots, .int .i64 P.low, .int .i64 P.high, .int .i64 P.top, .int .i64 P.sketch, .int .i64 P.fine, .int .i64 P.idle, .int .i64 P.window, .int .i64 P.late, .int .i64 P.future, .slice A nP cP])] V fun e w' => e = .returned ((.agg #[.int .i64 P.slots, .int .i64 P.low, .int .i64 P.high, .int .i64 P.top, .int .i64 P.sketch, .int .i64 P.fine, .int .i64 P.idle, .int .i64 P.window, .int .i64 P.late, .int .i64 P.future, .slice A nP cP])) ∧ Below V.heap.size V w') := Lib.hid (fun V => refPolicy_call P A nP cP V)
  go_wp2_with fail
  refine (HRP.out _).mono ?_
  rintro e w4 ⟨rfl, b4⟩
  clear CP LP
  have CN := (rqnew_no P A nP cP ts' 4 w4 (HTI.out w4 b4).ints (HTI.out w4 b4).le (.inl HRR.out))
  unfold polV at CN
  go_wp2_with fail
  refine CN.mono ?_
  rintro e w5 ⟨rfl, b5⟩
  have b35 := bstep b5 b4
  clear CN b4 b5
  cases own
  all_goals
    have BPz := Lib.hid (HPV.out _ b35)
    have BSz := Lib.hid (HSV.out _ b35)
    have HTz := Lib.hid (HTI.out _ b35)
    have bz := Lib.hid (hb2.out.trans (Below.mono b35 hb2.out.size))
    have HRz := Lib.hid (HSL.out.step bz.out)
    have HBz := HSB
    clear b35
    have CP := BPz.out.cell
    have LP := BPz.out.lt
    have CS := BSz.out.cell
    have LS := BSz.out.lt
    have HRS : Hid (∀ V, Below w5.heap.size w5 V → Calls Tryz.prog 25 #[.agg #[.int .i64 win, .bool closed, .string s1, .string s2, .int .u64 (seen : Nat), .slice sa sn sc]] V fun e w' => (∃ A8 c8, e = .returned (.agg #[.int .i64 win, .bool closed, .string s1, .string s2, .int .u64 (seen : Nat), .slice A8 sn c8]) ∧ RIts w' (V.heap.size + 3) A8 sn c8 sl) ∧ Below V.heap.size V w') := Lib.hid (fun V hV => refState_call win closed s1 s2 (seen : Nat) sa sn sc sl V (HRz.out.step hV) hsm)
    have CO := of_bad P A nP cP ts' win closed s1 s2 (seen : Nat) sa sn sc w5 HTz.out.ints HTz.out.le HRR.out
    unfold polV stV at CO
    have HRO : Hid (∀ V A8 c8, Below w5.heap.size w5 V → Calls Tryz.prog 17 #[(.agg #[.int .i64 P.slots, .int .i64 P.low, .int .i64 P.high, .int .i64 P.top, .int .i64 P.sketch, .int .i64 P.fine, .int .i64 P.idle, .int .i64 P.window, .int .i64 P.late, .int .i64 P.future, .slice A nP cP]), .agg #[.int .i64 win, .bool closed, .string s1, .string s2, .int .u64 (seen : Nat), .slice A8 sn c8]] V fun e w' => e = .returned (.tuple #[.pointer none, .int .i64 1]) ∧ Below V.heap.size V w') := Lib.hid (fun V A8 c8 hV => rof_bad P A nP cP ts' win closed s1 s2 (seen : Nat) A8 sn c8 V (HTz.out.ints.step hV) HTz.out.le HRR.out)
    have HCO := Lib.hid CO
    clear CO
    go_wp2_with fail
    refine HCO.out.mono ?_
    rintro e w6 ⟨rfl, b6⟩
    have BPd := Blk.step b6 BPz.out
    have BSd := Blk.step b6 BSz.out
    have bd := b6
    have b6d := Below.refl w6.heap.size w6
    clear CP LP CS LS b6
    go_upto_region 36 with fail
    replace BPd := BPd.drew
    replace BSd := BSd.drew
    replace bd := bdrew bd
    replace b6d := bdrew b6d
    have LP := BPd.lt
    have LS := BSd.lt
    go_region_held3 (fun (w' : World) => (∀ i, w'.cell? ⟨gp, i, none⟩ = (#[.int .i64 P.slots, .int .i64 P.low, .int .i64 P.high, .int .i64 P.top, .int .i64 P.sketch, .int .i64 P.fine, .int .i64 P.idle, .int .i64 P.window, .int .i64 P.late, .int .i64 P.future, .slice A nP cP] : Array Value)[i]?) ∧ (∀ i, w'.cell? ⟨w.heap.size + 1, i, none⟩ = (#[.int .i64 win, .bool closed, .string s1, .string s2, .int .u64 (seen : Nat), .slice sa sn sc] : Array Value)[i]?)) (exact ⟨BPd.cell, BSd.cell⟩)
      (first
        | (go_at_call 9; ((with_reducible refine (HRP.out _).mono ?_); rintro eA wA ⟨rfl, bA⟩; have P2 := Blk.step bA BPd; have S2 := Blk.step bA BSd; have d2 := bstep bA bd; have e2 := bstep bA b6d; clear BPd BSd bd b6d; have BPd := P2; have BSd := S2; have bd := d2; have b6d := e2; clear P2 S2 d2 e2; clear bA))
        | (go_at_call 25; ((with_reducible refine (HRS.out _ bd).mono ?_); rintro eB wB ⟨⟨A8, c8, rfl, IS8⟩, bB⟩; have P2 := Blk.step bB BPd; have S2 := Blk.step bB BSd; have d2 := bstep bB bd; have e2 := bstep bB b6d; clear BPd BSd bd b6d; have BPd := P2; have BSd := S2; have bd := d2; have b6d := e2; clear P2 S2 d2 e2; clear bB))
        | (go_at_call 17; ((with_reducible refine (HRO.out _ _ _ bd).mono ?_); rintro eC wC ⟨rfl, bC⟩; have P2 := Blk.step bC BPd; have S2 := Blk.step bC BSd; have d2 := bstep bC bd; have e2 := bstep bC b6d; clear BPd BSd bd b6d; have BPd := P2; have BSd := S2; have bd := d2; have b6d := e2; clear P2 S2 d2 e2; clear bC)))
    go_wp2_with fail
    go_ret
    exact ⟨rfl, bz.out.trans (bd.mono bz.out.size)⟩
set_option maxRecDepth 100000 in
set_option maxHeartbeats 16000000 in
theorem quotaOf_raw (P : PolN) (ts' : List Int) (p : PolN) (ta : Option Addr) (tn tc : Nat) (own0 : Bool) (a : Option Addr) (n c : Nat) (win : Int) (closed : Bool) (s1 s2 : ByteArray) (seen : Nat) (sa : Option Addr) (sn sc : Nat) (sl : List It) (how : Int) (a2 : Option Addr) (n2 c2 : Nat) (ys : List Int) (w : World)
    (hT : Tab w) (hWI : ∀ V, Below w.heap.size w V → Calls Tryz.prog 6 #[wishV p ta tn tc own0 a n c] V (WishPost w.heap.size P ts' V)) (hR : rightP P ts' = true) (hwin : win ≤ 9223372036854775807) (hs1 : s1.size ≤ 9223372036854775807) (hs2 : s2.size ≤ 9223372036854775807) (hsn : seen < 18446744073709551616) (hsl : ItRow w sa sn sl) (hsc : sn ≤ sc) (hsm : sn ≤ 4398046511103) (hsb : Bd sl) (hhow : 0 ≤ how ∧ how ≤ 255) (hy : Ints .u8 w a2 n2 ys) (hyl : n2 ≤ 140737488351232) :
    Calls Tryz.prog 4 #[wishV p ta tn tc own0 a n c, stV win closed s1 s2 seen sa sn sc, .bool false, .int .u8 how, .slice a2 n2 c2] w fun e w' => e = .returned (.bool true) ∧ Below w.heap.size w w' := by
  have HT := Lib.hid hT
  have HWI := Lib.hid hWI
  have HY := Lib.hid hy
  have HSL := Lib.hid hsl
  have HSB := Lib.hid hsb
  have HRR := Lib.hid hR
  clear hT hWI hy hsl hsb hR
  unfold wishV at *
  unfold stV
  go_enter Tryz.func4, Tryz.ntmps4
  go_wp2_with fail
  refine (examples_q _ (HT.out.step (balloc (balloc (Below.refl _ _) _) _))).mono ?_
  rintro e w1 ⟨rfl, b1⟩
  have B0 := Blk.step b1 ((Blk.new w 27 #[.int .i64 p.slots, .int .i64 p.low, .int .i64 p.high, .int .i64 p.top, .int .i64 p.sketch, .int .i64 p.fine, .int .i64 p.idle, .int .i64 p.window, .int .i64 p.late, .int .i64 p.future, .slice ta tn tc, .bool own0, .slice a n c]).alloc (.cells #[.int .i64 win, .bool closed, .string s1, .string s2, .int .u64 (seen : Nat), .slice sa sn sc] 59))
  have BS1 := Lib.hid (Blk.step b1 (Blk.newAt (w := w.alloc (.cells #[.int .i64 p.slots, .int .i64 p.low, .int .i64 p.high, .int .i64 p.top, .int .i64 p.sketch, .int .i64 p.fine, .int .i64 p.idle, .int .i64 p.window, .int .i64 p.late, .int .i64 p.future, .slice ta tn tc, .bool own0, .slice a n c] 27)) (g := w.heap.size + 1) (t := 59) (cs := #[.int .i64 win, .bool closed, .string s1, .string s2, .int .u64 (seen : Nat), .slice sa sn sc]) (by simp)))
  have hb1 := Lib.hid (bstep b1 (balloc (balloc (Below.refl w.heap.size w) (.cells #[.int .i64 p.slots, .int .i64 p.low, .int .i64 p.high, .int .i64 p.top, .int .i64 p.sketch, .int .i64 p.fine, .int .i64 p.idle, .int .i64 p.window, .int .i64 p.late, .int .i64 p.future, .slice ta tn tc, .bool own0, .slice a n c] 27)) (.cells #[.int .i64 win, .bool closed, .string s1, .string s2, .int .u64 (seen : Nat), .slice sa sn sc] 59)))
  have C0 := B0.cell
  have L0 := B0.lt
  clear b1
  go_wp2_with fail
  refine (HWI.out w1 hb1.out).mono ?_
  rintro e w2 ⟨A, nP, cP, rfl, hI, b2⟩
  unfold polV
  have HI2 := Lib.hid (hI.step (balloc (Below.refl _ w2) (.cells #[.int .i64 P.slots, .int .i64 P.low, .int .i64 P.high, .int .i64 P.top, .int .i64 P.sketch, .int .i64 P.fine, .int .i64 P.idle, .int .i64 P.window, .int .i64 P.late, .int .i64 P.future, .slice A nP cP] 24)))
  have BS2 := Lib.hid ((Blk.step b2 BS1.out).alloc (.cells #[.int .i64 P.slots, .int .i64 P.low, .int .i64 P.high, .int .i64 P.top, .int .i64 P.sketch, .int .i64 P.fine, .int .i64 P.idle, .int .i64 P.window, .int .i64 P.late, .int .i64 P.future, .slice A nP cP] 24))
  have hb2 := Lib.hid (balloc (bstep b2 hb1.out) (.cells #[.int .i64 P.slots, .int .i64 P.low, .int .i64 P.high, .int .i64 P.top, .int .i64 P.sketch, .int .i64 P.fine, .int .i64 P.idle, .int .i64 P.window, .int .i64 P.late, .int .i64 P.future, .slice A nP cP] 24))
  have hw12 := Lib.hid (Nat.le_trans B0.lt b2.size)
  have hgs2 : Hid (w.heap.size + 1 < w1.heap.size) := Lib.hid BS1.out.lt
  clear C0 L0 B0 hI b2 BS1 hb1 HWI
  go_upto_region 5 with fail
  have BP := Lib.hid (Blk.new w2 24 #[.int .i64 P.slots, .int .i64 P.low, .int .i64 P.high, .int .i64 P.top, .int .i64 P.sketch, .int .i64 P.fine, .int .i64 P.idle, .int .i64 P.window, .int .i64 P.late, .int .i64 P.future, .slice A nP cP])
  generalize (w2.alloc (.cells #[.int .i64 P.slots, .int .i64 P.low, .int .i64 P.high, .int .i64 P.top, .int .i64 P.sketch, .int .i64 P.fine, .int .i64 P.idle, .int .i64 P.window, .int .i64 P.late, .int .i64 P.future, .slice A nP cP] 24)) = w3 at *
  generalize w2.heap.size = gp at *
  have HTI : Hid (∀ V, Below w3.heap.size w3 V → Tiers w.heap.size w1.heap.size V A nP ts') := Lib.hid (fun V hV => HI2.out.step hV)
  have HPV : Hid (∀ V, Below w3.heap.size w3 V → Blk V gp 24 #[.int .i64 P.slots, .int .i64 P.low, .int .i64 P.high, .int .i64 P.top, .int .i64 P.sketch, .int .i64 P.fine, .int .i64 P.idle, .int .i64 P.window, .int .i64 P.late, .int .i64 P.future, .slice A nP cP]) := Lib.hid (fun V hV => Blk.below hV BP.out.lt BP.out)
  have HSV : Hid (∀ V, Below w3.heap.size w3 V → Blk V (w.heap.size + 1) 59 #[.int .i64 win, .bool closed, .string s1, .string s2, .int .u64 (seen : Nat), .slice sa sn sc]) := Lib.hid (fun V hV => Blk.below hV BS2.out.lt BS2.out)
  have CP := BP.out.cell
  have LP := BP.out.lt
  have HRP : Hid (∀ V, Calls Tryz.prog 9 #[(.agg #[.int .i64 P.slots, .int .i64 P.low, .int .i64 P.high, .int .i64 P.top, .int .i64 P.sketch, .int .i64 P.fine, .int .i64 P.idle, .int .i64 P.window, .int .i64 P.late, .int .i64 P.future, .slice A nP cP])] V fun e w' => e = .returned ((.agg #[.int .i64 P.slots, .int .i64 P.low, .int .i64 P.high, .int .i64 P.top, .int .i64 P.sketch, .int .i64 P.fine, .int .i64 P.idle, .int .i64 P.window, .int .i64 P.late, .int .i64 P.future, .slice A nP cP])) ∧ Below V.heap.size V w') := Lib.hid (fun V => refPolicy_call P A nP cP V)
  go_wp2_with fail
  refine (HRP.out _).mono ?_
  rintro e w4 ⟨rfl, b4⟩
  clear CP LP
  have CN := rx_new (W := w3) P A nP cP ts' 4 b4 (HTI.out w4 b4).ints (HTI.out w4 b4).le HRR.out (by omega) (by omega)
  unfold polV at CN
  go_wp2_with fail
  refine CN.mono ?_
  rintro e w5 ⟨gx, rfl, X5, b5⟩
  have b35 := Lib.hid (bstep b5 b4)
  have HX5 := Lib.hid X5
  clear CN b4 b5 X5
  have BPz := Lib.hid (HPV.out _ b35.out)
  have BSz := Lib.hid (HSV.out _ b35.out)
  have HTz := Lib.hid (HTI.out _ b35.out)
  have bz := Lib.hid (hb2.out.trans (Below.mono b35.out hb2.out.size))
  have HRz := Lib.hid (HSL.out.step bz.out)
  have HBz := HSB
  have CP := BPz.out.cell
  have LP := BPz.out.lt
  have CS := BSz.out.cell
  have LS := BSz.out.lt
  have HRS : Hid (∀ V, Below w5.heap.size w5 V → Calls Tryz.prog 25 #[.agg #[.int .i64 win, .bool closed, .string s1, .string s2, .int .u64 (seen : Nat), .slice sa sn sc]] V fun e w' => (∃ A8 c8, e = .returned (.agg #[.int .i64 win, .bool closed, .string s1, .string s2, .int .u64 (seen : Nat), .slice A8 sn c8]) ∧ RIts w' (V.heap.size + 3) A8 sn c8 sl) ∧ Below V.heap.size V w') := Lib.hid (fun V hV => refState_call win closed s1 s2 (seen : Nat) sa sn sc sl V (HRz.out.step hV) hsm)
  have CO := of_q w5 P A nP cP ts' win closed s1 s2 seen sa sn sc sl w5 (Below.refl _ _) HTz.out.ints HTz.out.le HRR.out hwin hs1 hs2 hsn HRz.out hsc hsm HBz.out
  unfold polV stV at CO
  have HRO : Hid (∀ V A8 c8 B8, Below w5.heap.size w5 V → RIts V B8 A8 sn c8 sl → Calls Tryz.prog 17 #[(.agg #[.int .i64 P.slots, .int .i64 P.low, .int .i64 P.high, .int .i64 P.top, .int .i64 P.sketch, .int .i64 P.fine, .int .i64 P.idle, .int .i64 P.window, .int .i64 P.late, .int .i64 P.future, .slice A nP cP]), .agg #[.int .i64 win, .bool closed, .string s1, .string s2, .int .u64 (seen : Nat), .slice A8 sn c8]] V (ROfQPost w5 P win closed s1 s2 seen sl V)) := Lib.hid (fun V A8 c8 B8 hV I8 => rof_q w5 P A nP cP ts' win closed s1 s2 seen A8 sn c8 sl V hV (HTz.out.ints.step hV) HTz.out.le HRR.out hwin hs1 hs2 hsn I8.itRow (rits_le I8) hsm HBz.out)
  obtain ⟨qo, hqo⟩ : ∃ qo, (ofQ P win closed s1 s2 seen sl) = qo := ⟨_, rfl⟩
  have HCO : Hid (Calls Tryz.prog 15 #[(.agg #[.int .i64 P.slots, .int .i64 P.low, .int .i64 P.high, .int .i64 P.top, .int .i64 P.sketch, .int .i64 P.fine, .int .i64 P.idle, .int .i64 P.window, .int .i64 P.late, .int .i64 P.future, .slice A nP cP]), .agg #[.int .i64 win, .bool closed, .string s1, .string s2, .int .u64 (seen : Nat), .slice sa sn sc]] w5 fun e w' => Below w5.heap.size w5 w' ∧ (((OkQ P win s1 s2 seen sl) ∧ ∃ g, e = .returned (.tuple #[.pointer (some ⟨g, 0, none⟩), .int .i64 0]) ∧ QQ w5 g qo w') ∨ (¬ (OkQ P win s1 s2 seen sl) ∧ e = .returned (.tuple #[.pointer none, .int .i64 2])))) := Lib.hid (by rw [← hqo]; exact CO)
  have HRO1 : Hid ((OkQ P win s1 s2 seen sl) → ∀ V A8 c8 B8, Below w5.heap.size w5 V → RIts V B8 A8 sn c8 sl → Calls Tryz.prog 17 #[(.agg #[.int .i64 P.slots, .int .i64 P.low, .int .i64 P.high, .int .i64 P.top, .int .i64 P.sketch, .int .i64 P.fine, .int .i64 P.idle, .int .i64 P.window, .int .i64 P.late, .int .i64 P.future, .slice A nP cP]), .agg #[.int .i64 win, .bool closed, .string s1, .string s2, .int .u64 (seen : Nat), .slice A8 sn c8]] V fun e w' => Below V.heap.size V w' ∧ ∃ g, e = .returned (.tuple #[.pointer (some ⟨g, 0, none⟩), .int .i64 0]) ∧ RX w5 g qo w') := Lib.hid (fun hok V A8 c8 B8 hV I8 => (HRO.out V A8 c8 B8 hV I8).mono (fun e w' h => ⟨h.1, by rcases h.2 with ⟨_, h2⟩ | ⟨h2, _⟩; exact (by rw [← hqo]; exact h2); exact absurd hok h2⟩))
  have HRO2 : Hid (¬ (OkQ P win s1 s2 seen sl) → ∀ V A8 c8 B8, Below w5.heap.size w5 V → RIts V B8 A8 sn c8 sl → Calls Tryz.prog 17 #[(.agg #[.int .i64 P.slots, .int .i64 P.low, .int .i64 P.high, .int .i64 P.top, .int .i64 P.sketch, .int .i64 P.fine, .int .i64 P.idle, .int .i64 P.window, .int .i64 P.late, .int .i64 P.future, .slice A nP cP]), .agg #[.int .i64 win, .bool closed, .string s1, .string s2, .int .u64 (seen : Nat), .slice A8 sn c8]] V fun e w' => e = .returned (.tuple #[.pointer none, .int .i64 2]) ∧ Below V.heap.size V w') := Lib.hid (fun hno V A8 c8 B8 hV I8 => (HRO.out V A8 c8 B8 hV I8).mono (fun e w' h => ⟨by rcases h.2 with ⟨h2, _⟩ | ⟨_, h2⟩; exact absurd h2 hno; exact h2, h.1⟩))
  clear CO HRO hqo
  generalize (OkQ P win s1 s2 seen sl) = OKQ at *
  go_wp2_with fail
  refine HCO.out.mono ?_
  clear HCO
  rintro e w6 ⟨b6, ⟨hok, gq, rfl, Q6⟩ | ⟨hno, rfl⟩⟩
  · have HOK := Lib.hid (HRO1.out hok)
    clear hok HRO1 HRO2
    have HQ6 := Lib.hid Q6
    clear Q6
    have BPd := Blk.step b6 BPz.out
    have BSd := Blk.step b6 BSz.out
    have bd := b6
    have b6d := Below.refl w6.heap.size w6
    clear CP LP CS LS b6
    go_upto_region 36 with fail
    replace BPd := BPd.drew
    replace BSd := BSd.drew
    replace bd := bdrew bd
    replace b6d := bdrew b6d
    have LP := BPd.lt
    have LS := BSd.lt
    go_region_held3 (fun (w' : World) => (∀ i, w'.cell? ⟨gp, i, none⟩ = (#[.int .i64 P.slots, .int .i64 P.low, .int .i64 P.high, .int .i64 P.top, .int .i64 P.sketch, .int .i64 P.fine, .int .i64 P.idle, .int .i64 P.window, .int .i64 P.late, .int .i64 P.future, .slice A nP cP] : Array Value)[i]?) ∧ (∀ i, w'.cell? ⟨w.heap.size + 1, i, none⟩ = (#[.int .i64 win, .bool closed, .string s1, .string s2, .int .u64 (seen : Nat), .slice sa sn sc] : Array Value)[i]?)) (exact ⟨BPd.cell, BSd.cell⟩)
      (first
        | (go_at_call 9; ((with_reducible refine (HRP.out _).mono ?_); rintro eA wA ⟨rfl, bA⟩; have P2 := Blk.step bA BPd; have S2 := Blk.step bA BSd; have d2 := bstep bA bd; have e2 := bstep bA b6d; clear BPd BSd bd b6d; have BPd := P2; have BSd := S2; have bd := d2; have b6d := e2; clear P2 S2 d2 e2; clear bA))
        | (go_at_call 25; ((with_reducible refine (HRS.out _ bd).mono ?_); rintro eB wB ⟨⟨A8, c8, rfl, IS8⟩, bB⟩; have P2 := Blk.step bB BPd; have S2 := Blk.step bB BSd; have d2 := bstep bB bd; have e2 := bstep bB b6d; clear BPd BSd bd b6d; have BPd := P2; have BSd := S2; have bd := d2; have b6d := e2; clear P2 S2 d2 e2; clear bB))
        | (go_at_call 17; ((with_reducible refine (HOK.out _ _ _ _ bd IS8).mono ?_); rintro eC wC ⟨bC, gz, rfl, XC⟩; have P2 := Blk.step bC BPd; have S2 := Blk.step bC BSd; have d2 := bstep bC bd; have e2 := bstep bC b6d; clear BPd BSd bd b6d; have BPd := P2; have BSd := S2; have bd := d2; have b6d := e2; clear P2 S2 d2 e2; clear bC)))
    have HQC := Lib.hid (HQ6.out.step b6d)
    have HXC := Lib.hid XC
    have hbd := Lib.hid (bz.out.trans (bd.mono bz.out.size))
    clear XC bd b6d BPd BSd
    go_wp2_with fail
    refine (q_state HQC.out).mono ?_
    rintro e w8 ⟨y1, m1, k1, d1, t1, rfl, T1, I1, b8⟩
    have HT1 := Lib.hid T1
    have HI1 := Lib.hid I1
    have HX8 := Lib.hid (HXC.out.step b8)
    have HQ8 := Lib.hid (HQC.out.step b8)
    clear T1 I1
    go_wp2_with fail
    refine (rx_state HX8.out).mono ?_
    rintro e w9 ⟨y2, m2, k2, d2, t2, rfl, T2, m16, I2, b9⟩
    have CSM := Lib.hid (same_both (V3 := w9) (HQ8.out.step b9) HT1.out T2 HI1.out I2 b9 (Below.refl _ _))
    have HQ9 := Lib.hid (HQ8.out.step b9)
    have HX9 := Lib.hid (HX8.out.step b9)
    have hb9 := Lib.hid (bstep b9 b8)
    clear T2 I2 b9 b8 m16 HX8 HQ8 HT1 HI1 HXC HQC
    go_wp2_with fail
    refine CSM.out.mono ?_
    clear CSM
    rintro e w10 ⟨rfl, b10⟩
    have HQ10 := Lib.hid (HQ9.out.step b10)
    have HX10 := Lib.hid (HX9.out.step b10)
    have hb10 := Lib.hid (bstep b10 hb9.out)
    clear HQ9 HX9 hb9 b10
    go_wp2_with fail
    refine (q_many HQ10.out).mono ?_
    rintro e w11 ⟨rfl, b11⟩
    have HX11 := Lib.hid (HX10.out.step b11)
    have hb11 := Lib.hid (bstep b11 hb10.out)
    clear HQ10 HX10 hb10 b11
    generalize hmq : manyQ qo = MQ at *
    have CMQ : Hid (∀ V, RX w5 gz qo V → Calls Tryz.prog 21 #[.pointer (some ⟨gz, 0, none⟩)] V fun e w' => e = .returned (.int .u64 MQ) ∧ Below V.heap.size V w') := Lib.hid (fun V hV => by rw [← hmq]; exact rx_many hV)
    clear hmq
    go_wp2_with fail
    refine (CMQ.out _ HX11.out).mono ?_
    rintro e w12 ⟨rfl, b12⟩
    have hb12 := Lib.hid (bstep b12 hb11.out)
    clear HX11 hb11 b12
    have hmm : (MQ == MQ) = true := by simp
    go_wp2_with fail
    go_ret
    exact ⟨rfl, hbd.out.trans (hb12.out.mono hbd.out.size)⟩
  · have HOK := Lib.hid (HRO2.out hno)
    clear hno HRO1 HRO2
    have BPd := Blk.step b6 BPz.out
    have BSd := Blk.step b6 BSz.out
    have bd := b6
    have b6d := Below.refl w6.heap.size w6
    clear CP LP CS LS b6
    go_upto_region 36 with fail
    replace BPd := BPd.drew
    replace BSd := BSd.drew
    replace bd := bdrew bd
    replace b6d := bdrew b6d
    have LP := BPd.lt
    have LS := BSd.lt
    go_region_held3 (fun (w' : World) => (∀ i, w'.cell? ⟨gp, i, none⟩ = (#[.int .i64 P.slots, .int .i64 P.low, .int .i64 P.high, .int .i64 P.top, .int .i64 P.sketch, .int .i64 P.fine, .int .i64 P.idle, .int .i64 P.window, .int .i64 P.late, .int .i64 P.future, .slice A nP cP] : Array Value)[i]?) ∧ (∀ i, w'.cell? ⟨w.heap.size + 1, i, none⟩ = (#[.int .i64 win, .bool closed, .string s1, .string s2, .int .u64 (seen : Nat), .slice sa sn sc] : Array Value)[i]?)) (exact ⟨BPd.cell, BSd.cell⟩)
      (first
        | (go_at_call 9; ((with_reducible refine (HRP.out _).mono ?_); rintro eA wA ⟨rfl, bA⟩; have P2 := Blk.step bA BPd; have S2 := Blk.step bA BSd; have d2 := bstep bA bd; have e2 := bstep bA b6d; clear BPd BSd bd b6d; have BPd := P2; have BSd := S2; have bd := d2; have b6d := e2; clear P2 S2 d2 e2; clear bA))
        | (go_at_call 25; ((with_reducible refine (HRS.out _ bd).mono ?_); rintro eB wB ⟨⟨A8, c8, rfl, IS8⟩, bB⟩; have P2 := Blk.step bB BPd; have S2 := Blk.step bB BSd; have d2 := bstep bB bd; have e2 := bstep bB b6d; clear BPd BSd bd b6d; have BPd := P2; have BSd := S2; have bd := d2; have b6d := e2; clear P2 S2 d2 e2; clear bB))
        | (go_at_call 17; ((with_reducible refine (HOK.out _ _ _ _ bd IS8).mono ?_); rintro eC wC ⟨rfl, bC⟩; have P2 := Blk.step bC BPd; have S2 := Blk.step bC BSd; have d2 := bstep bC bd; have e2 := bstep bC b6d; clear BPd BSd bd b6d; have BPd := P2; have BSd := S2; have bd := d2; have b6d := e2; clear P2 S2 d2 e2; clear bC)))
    go_wp2_with fail
    go_ret
    exact ⟨rfl, bz.out.trans (bd.mono bz.out.size)⟩
end Go.Proofs.YtapiehddcdnadaaGreatDoor
