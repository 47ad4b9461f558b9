/- QuotaPlays: the round of what is told of itself. -/
import Derived.Test.YtapiehddcdnadaaGreatDoorQuZ7
import Derived.Test.YtapiehddcdnadaaGreatDoorQuZ2
import Derived.Deep.RegionHeldLaw
import Derived.Deep.CutBlock
import Derived.Deep.CutRange
import Derived.Deep.MidRow
import Derived.Deep.WholeRow
import Derived.Laws.Tables
namespace Go.Proofs.YtapiehddcdnadaaGreatDoor
open Go.RowKit
set_option linter.unusedVariables false
set_option linter.unusedSimpArgs false

set_option maxRecDepth 1000000 in
set_option maxHeartbeats 8000000 in
theorem round_state (near : Bool) (b off n2 c2 : Nat) (w wr : World) (g x gp : Nat) (Q0 : Exit → Act → World → Prop) (u0 u1 u4 u5 u6 u7 u8 u12 u15 u16 u17 u18 u19 u20 u21 u22 u23 u24 u25 u26 u27 u28 u29 u30 u31 u32 u33 u34 u35 u36 u37 u38 u39 u40 u41 u42 u43 u44 u45 u46 u47 u48 u49 u50 u51 u52 u53 u54 u55 u56 u57 u58 u59 u60 u61 u62 u63 u64 u65 u66 u67 u68 u69 u70 u71 u72 u73 u74 u75 u76 u77 u78 u79 u80 u81 u82 u83 u84 u85 u86 u87 u88 u89 u90 u91 u92 u93 u94 u95 u96 u97 u98 u99 u100 u101 u102 u103 u104 u105 u106 u107 u108 u109 u110 u111 u112 u113 u114 u115 u116 u117 u118 u119 u120 u121 u122 u123 u124 u125 u126 u127 u128 u129 u130 u131 u132 u133 u134 u135 u136 u137 u138 u139 u140 u141 u142 u143 u144 u145 u146 u147 u148 u149 u150 u151 u152 u153 u154 u155 u156 u157 u158 u159 u160 u161 u162 u163 u164 u165 u166 u167 u168 u169 u170 u171 u172 u173 u174 u175 u176 u177 u178 u179 u180 u181 u182 u183 u184 u185 u186 u187 u188 u189 u190 u191 u192 u193 u194 u195 u196 u197 u198 u199 u200 u201 u202 u203 u204 u205 u206 u207 u208 u209 u210 u211 u212 u213 u214 u215 u216 u217 u218 u219 u220 u221 u222 u223 u224 u225 u226 u227 u228 u229 u230 u231 u232 u233 u234 u235 u236 u237 : Value) (j : Nat) (q : QS) (U : PolN) (AU : Option Addr) (nU cU : Nat) (tU : List Int) (kind k : Int) (s : ByteArray) (known full : Bool) (by_ : Int) (dp : PolN) (dta : Option Addr) (dtn dtc : Nat) (dts : List Int) (down : Bool) (da : Option Addr) (dn dc : Nat) (dxs : List Int) (hT : Tab w) (hj1 : j < n2) (hj2 : j < 80) (hn2 : n2 ≤ 9223372036854775807) (hPX : PX w g x q q wr) (hBQ : BackQQ q) (hBU : Blk wr gp 24 #[.int .i64 U.slots, .int .i64 U.low, .int .i64 U.high, .int .i64 U.top, .int .i64 U.sketch, .int .i64 U.fine, .int .i64 U.idle, .int .i64 U.window, .int .i64 U.late, .int .i64 U.future, .slice AU nU cU]) (hTU : TierQ w wr AU nU tU) (hRU : rightP U tU = true) (hgp : w.heap.size ≤ gp) (hb : b < wr.heap.size) (f0 : 0 ≤ kind ∧ kind ≤ 255) (f1 : 0 ≤ k ∧ k ≤ 255) (f2 : s.size ≤ 9223372036854775807) (f3 : -9223372036854775808 ≤ by_ ∧ by_ ≤ 9223372036854775807) (f5 : Ints .i64 w dta dtn dts) (f6 : dtn ≤ 9223372036854775807) (f7 : Ints .u16 w da dn dxs) (f8 : dn ≤ 9223372036854775807) (HC : Hid (∀ i u, ([.int .u8 kind, .int .u8 k, .string s, .bool known, .bool full, .int .i64 by_, .int .i64 dp.slots, .int .i64 dp.low, .int .i64 dp.high, .int .i64 dp.top, .int .i64 dp.sketch, .int .i64 dp.fine, .int .i64 dp.idle, .int .i64 dp.window, .int .i64 dp.late, .int .i64 dp.future, .slice dta dtn dtc, .bool down, .slice da dn dc] : List Value)[i]? = some u → wr.cell? ⟨b, off + j * 19 + i, none⟩ = some u))
    (kd : Int) (hkd : kind % 13 = kd) (hk : kd = 12) :
    Code.wp Tryz.prog bodyQ (Exit.then (fun a' w'' => WI near (some ⟨b, off, none⟩) n2 c2 w g x gp a' w'' ∧ Wmu n2 a' w'' < Wmu n2 ⟨#[u0, u1, .bool near, .slice (some ⟨b, off, none⟩) n2 c2, u4, u5, u6, u7, u8, .bool true, .pointer (some ⟨gp, 0, none⟩), .pointer (some ⟨g, 0, none⟩), u12, .pointer (some ⟨x, 0, none⟩), .int .i64 (j : Nat), u15, u16, u17, u18, u19, u20, u21, u22, u23, u24, u25, u26, u27, u28, u29, u30, u31, u32, u33, u34, u35, u36, u37, u38, u39, u40, u41, u42, u43, u44, u45, u46, u47, u48, u49, u50, u51, u52, u53, u54, u55, u56, u57, u58, u59, u60, u61, u62, u63, u64, u65, u66, u67, u68, u69, u70, u71, u72, u73, u74, u75, u76, u77, u78, u79, u80, u81, u82, u83, u84, u85, u86, u87, u88, u89, u90, u91, u92, u93, u94, u95, u96, u97, u98, u99, u100, u101, u102, u103, u104, u105, u106, u107, u108, u109, u110, u111, u112, u113, u114, u115, u116, u117, u118, u119, u120, u121, u122, u123, u124, u125, u126, u127, u128, u129, u130, u131, u132, u133, u134, u135, u136, u137, u138, u139, u140, u141, u142, u143, u144, u145, u146, u147, u148, u149, u150, u151, u152, u153, u154, u155, u156, u157, u158, u159, u160, u161, u162, u163, u164, u165, u166, u167, u168, u169, u170, u171, u172, u173, u174, u175, u176, u177, u178, u179, u180, u181, u182, u183, u184, u185, u186, u187, u188, u189, u190, u191, u192, u193, u194, u195, u196, u197, u198, u199, u200, u201, u202, u203, u204, u205, u206, u207, u208, u209, u210, u211, u212, u213, u214, u215, u216, u217, u218, u219, u220, u221, u222, u223, u224, u225, u226, u227, u228, u229, u230, u231, u232, u233, u234, u235, u236, u237], []⟩ wr) Q0) ⟨#[u0, u1, .bool near, .slice (some ⟨b, off, none⟩) n2 c2, u4, u5, u6, u7, u8, .bool true, .pointer (some ⟨gp, 0, none⟩), .pointer (some ⟨g, 0, none⟩), u12, .pointer (some ⟨x, 0, none⟩), .int .i64 (j : Nat), u15, u16, u17, u18, u19, u20, u21, u22, u23, u24, u25, u26, u27, u28, u29, u30, u31, u32, u33, u34, u35, u36, u37, u38, u39, u40, u41, u42, u43, u44, u45, u46, u47, u48, u49, u50, u51, u52, u53, u54, u55, u56, u57, u58, u59, u60, u61, u62, u63, u64, u65, u66, u67, u68, u69, u70, u71, u72, u73, u74, u75, u76, u77, u78, u79, u80, u81, u82, u83, u84, u85, u86, u87, u88, u89, u90, u91, u92, u93, u94, u95, u96, u97, u98, u99, u100, u101, u102, u103, u104, u105, u106, u107, u108, u109, u110, u111, u112, u113, u114, u115, u116, u117, u118, u119, u120, u121, u122, u123, u124, u125, u126, u127, u128, u129, u130, u131, u132, u133, u134, u135, u136, u137, u138, u139, u140, u141, u142, u143, u144, u145, u146, u147, u148, u149, u150, u151, u152, u153, u154, u155, u156, u157, u158, u159, u160, u161, u162, u163, u164, u165, u166, u167, u168, u169, u170, u171, u172, u173, u174, u175, u176, u177, u178, u179, u180, u181, u182, u183, u184, u185, u186, u187, u188, u189, u190, u191, u192, u193, u194, u195, u196, u197, u198, u199, u200, u201, u202, u203, u204, u205, u206, u207, u208, u209, u210, u211, u212, u213, u214, u215, u216, u217, u218, u219, u220, u221, u222, u223, u224, u225, u226, u227, u228, u229, u230, u231, u232, u233, u234, u235, u236, u237], []⟩ wr := by
  have HT := Lib.hid hT
  have HPX := Lib.hid hPX
  have HBQ := Lib.hid hBQ
  have HBU := Lib.hid hBU
  have HTU := Lib.hid hTU
  have HRU := Lib.hid hRU
  have HF5 := Lib.hid f5
  have HF7 := Lib.hid f7
  clear hT hPX hBQ hBU hTU hRU f5 f7
  have e1 : (j : Int) < n2 := by omega
  have e3 : (j : Int) < 80 := by omega
  have t13 : kind.tmod 13 = kd := by rw [Int.tmod_eq_emod_of_nonneg f0.1]; exact hkd
  have k10 : (kd == 10) = false := by simp [hk]
  have k11 : (kd == 11) = false := by simp [hk]
  have k12 : (kd == 12) = true := by simp [hk]
  clear hkd hk
  conv => arg 2; whnf
  go_upto_region 16 with fail
  have hbl := hb
  refine wp_region_lit ?_
  iterate 3 (refine wpList_plain rfl (fun K hK => ?_); go_simp; refine hK _ _ ?_; clear hK K)
  refine wpList_load_mid rfl 41 (.tmp 73) rfl b (off + j * 19) (by simp [Act.eval, Act.put]) [.int .u8 kind, .int .u8 k, .string s, .bool known, .bool full, .int .i64 by_, .int .i64 dp.slots, .int .i64 dp.low, .int .i64 dp.high, .int .i64 dp.top, .int .i64 dp.sketch, .int .i64 dp.fine, .int .i64 dp.idle, .int .i64 dp.window, .int .i64 dp.late, .int .i64 dp.future, .slice dta dtn dtc, .bool down, .slice da dn dc] _ (fun i u hu => HC.out i u hu) Tryz.underlying41 rfl (by kernel_rfl) ?_
  refine wpList_plain rfl (fun K hK => ?_)
  go_simp
  refine hK _ _ ?_
  clear hK K
  refine wpList_store_row rfl 41 (.tmp 15) (.tmp 74) rfl wr.heap.size #[.int .u8 kind, .int .u8 k, .string s, .bool known, .bool full, .int .i64 by_, .int .i64 dp.slots, .int .i64 dp.low, .int .i64 dp.high, .int .i64 dp.top, .int .i64 dp.sketch, .int .i64 dp.fine, .int .i64 dp.idle, .int .i64 dp.window, .int .i64 dp.late, .int .i64 dp.future, .slice dta dtn dtc, .bool down, .slice da dn dc] (by simp [Act.eval, Act.put]) (by simp [Act.eval, Act.put]) 41 _ (Blk.new wr _ _) (by kernel_rfl) rfl (by simp [Value.oneCell']) ?_
  rw [World.setRow_alloc_new]
  go_upto_region 17 with fail
  have hbW := Lib.hid HPX.out.below
  have BD := Lib.hid (Blk.new wr 41 #[.int .u8 kind, .int .u8 k, .string s, .bool known, .bool full, .int .i64 by_, .int .i64 dp.slots, .int .i64 dp.low, .int .i64 dp.high, .int .i64 dp.top, .int .i64 dp.sketch, .int .i64 dp.fine, .int .i64 dp.idle, .int .i64 dp.window, .int .i64 dp.late, .int .i64 dp.future, .slice dta dtn dtc, .bool down, .slice da dn dc])
  have HP7 := Lib.hid (HPX.out.step (balloc (Below.refl _ wr) (.cells #[.int .u8 kind, .int .u8 k, .string s, .bool known, .bool full, .int .i64 by_, .int .i64 dp.slots, .int .i64 dp.low, .int .i64 dp.high, .int .i64 dp.top, .int .i64 dp.sketch, .int .i64 dp.fine, .int .i64 dp.idle, .int .i64 dp.window, .int .i64 dp.late, .int .i64 dp.future, .slice dta dtn dtc, .bool down, .slice da dn dc] 41)))
  have HBU7 := Lib.hid (HBU.out.alloc (.cells #[.int .u8 kind, .int .u8 k, .string s, .bool known, .bool full, .int .i64 by_, .int .i64 dp.slots, .int .i64 dp.low, .int .i64 dp.high, .int .i64 dp.top, .int .i64 dp.sketch, .int .i64 dp.fine, .int .i64 dp.idle, .int .i64 dp.window, .int .i64 dp.late, .int .i64 dp.future, .slice dta dtn dtc, .bool down, .slice da dn dc] 41))
  have HTU7 := Lib.hid (HTU.out.step (balloc (Below.refl _ wr) (.cells #[.int .u8 kind, .int .u8 k, .string s, .bool known, .bool full, .int .i64 by_, .int .i64 dp.slots, .int .i64 dp.low, .int .i64 dp.high, .int .i64 dp.top, .int .i64 dp.sketch, .int .i64 dp.fine, .int .i64 dp.idle, .int .i64 dp.window, .int .i64 dp.late, .int .i64 dp.future, .slice dta dtn dtc, .bool down, .slice da dn dc] 41)))
  clear HPX HBU HTU HC hb
  generalize (wr.alloc (.cells #[.int .u8 kind, .int .u8 k, .string s, .bool known, .bool full, .int .i64 by_, .int .i64 dp.slots, .int .i64 dp.low, .int .i64 dp.high, .int .i64 dp.top, .int .i64 dp.sketch, .int .i64 dp.fine, .int .i64 dp.idle, .int .i64 dp.window, .int .i64 dp.late, .int .i64 dp.future, .slice dta dtn dtc, .bool down, .slice da dn dc] 41)) = w7 at *
  generalize wr.heap.size = gd at *
  have M0 : _ = some (Value.int .u8 kind) := BD.out.cellAt 0 rfl
  have ML := BD.out.lt
  have hq := Lib.hid HP7.out.1.facts
  have hqb := Lib.hid HP7.out.1.bd
  have hqt := Lib.hid HP7.out.1.tmr
  have COF : Hid (∀ X A m d bs s, PX w g x q q X → TierQ w X AU nU tU → Told q.l s → Its X bs A m d s → Calls Tryz.prog 15 #[(.agg #[.int .i64 U.slots, .int .i64 U.low, .int .i64 U.high, .int .i64 U.top, .int .i64 U.sketch, .int .i64 U.fine, .int .i64 U.idle, .int .i64 U.window, .int .i64 U.late, .int .i64 U.future, .slice AU nU cU]), stateV q A m d] X fun e w' => ∃ (v : Option Addr) (kk : Int), e = .returned (.tuple #[.pointer v, .int .i64 kk]) ∧ Below X.heap.size X w' ∧ (((OkQ U q.win (strOfNums q.rn) (strOfNums q.rb) q.seen s) ∧ kk = 0 ∧ ∃ g2, v = some ⟨g2, 0, none⟩ ∧ QQ w g2 (ofQ U q.win q.closed (strOfNums q.rn) (strOfNums q.rb) q.seen s) w') ∨ (¬ (OkQ U q.win (strOfNums q.rn) (strOfNums q.rb) q.seen s) ∧ kk = 2 ∧ v = none))) := Lib.hid (fun X A m d bs s h t hTo hI => by
    have h1 := hI.len
    have h2 := hTo.len
    have h3 := hqt.out.2
    have h4 : m ≤ d := by
      rcases Nat.eq_zero_or_pos m with h5 | h5
      · omega
      · obtain ⟨_, _, _, _, h6, _⟩ := hI.row h5; exact h6
    have f := hq.out
    refine (of_q w U AU nU cU tU q.win q.closed (strOfNums q.rn) (strOfNums q.rb) q.seen A m d s X h.below t.ints t.le HRU.out f.2.2.1 (by rw [strN_size]; omega) (by rw [strN_size]; omega) (by omega) hI.itRow h4 (by omega) (told_bd HBQ.out.1 hTo hqb.out)).mono ?_
    rintro e w' ⟨hb, ⟨hok, g2, rfl, hQ⟩ | ⟨hno, rfl⟩⟩
    · exact ⟨_, _, rfl, hb, .inl ⟨hok, rfl, g2, rfl, hQ⟩⟩
    · exact ⟨_, _, rfl, hb, .inr ⟨hno, rfl, rfl⟩⟩)
  have CRO : Hid (∀ X A m d bs s, PX w g x q q X → TierQ w X AU nU tU → Told q.l s → RIts X bs A m d s → Calls Tryz.prog 17 #[(.agg #[.int .i64 U.slots, .int .i64 U.low, .int .i64 U.high, .int .i64 U.top, .int .i64 U.sketch, .int .i64 U.fine, .int .i64 U.idle, .int .i64 U.window, .int .i64 U.late, .int .i64 U.future, .slice AU nU cU]), stateV q A m d] X fun e w' => ∃ (v : Option Addr) (kk : Int), e = .returned (.tuple #[.pointer v, .int .i64 kk]) ∧ Below X.heap.size X w' ∧ (((OkQ U q.win (strOfNums q.rn) (strOfNums q.rb) q.seen s) ∧ kk = 0 ∧ ∃ g2, v = some ⟨g2, 0, none⟩ ∧ RX w g2 (ofQ U q.win q.closed (strOfNums q.rn) (strOfNums q.rb) q.seen s) w') ∨ (¬ (OkQ U q.win (strOfNums q.rn) (strOfNums q.rb) q.seen s) ∧ kk = 2 ∧ v = none))) := Lib.hid (fun X A m d bs s h t hTo hI => by
    have h1 := hI.len
    have h2 := hTo.len
    have h3 := hqt.out.2
    have f := hq.out
    refine (rof_q w U AU nU cU tU q.win q.closed (strOfNums q.rn) (strOfNums q.rb) q.seen A m d s X h.below t.ints t.le HRU.out f.2.2.1 (by rw [strN_size]; omega) (by rw [strN_size]; omega) (by omega) hI.itRow (rits_le hI) (by omega) (told_bd HBQ.out.1 hTo hqb.out)).mono ?_
    rintro e w' ⟨hb, ⟨hok, g2, rfl, hQ⟩ | ⟨hno, rfl⟩⟩
    · exact ⟨_, _, rfl, hb, .inl ⟨hok, rfl, g2, rfl, hQ⟩⟩
    · exact ⟨_, _, rfl, hb, .inr ⟨hno, rfl, rfl⟩⟩)
  have CST : Hid (∀ X, PX w g x q q X → Calls Tryz.prog 16 #[.pointer (some ⟨g, 0, none⟩)] X fun e w' => ∃ A n c bs s, e = .returned (stateV q A n c) ∧ Told q.l s ∧ Its w' bs A n c s ∧ Below X.heap.size X w') := Lib.hid (fun X h => q_state h.1)
  have CRP : Hid (∀ X, Calls Tryz.prog 9 #[(.agg #[.int .i64 U.slots, .int .i64 U.low, .int .i64 U.high, .int .i64 U.top, .int .i64 U.sketch, .int .i64 U.fine, .int .i64 U.idle, .int .i64 U.window, .int .i64 U.late, .int .i64 U.future, .slice AU nU cU])] X fun e w' => e = .returned ((.agg #[.int .i64 U.slots, .int .i64 U.low, .int .i64 U.high, .int .i64 U.top, .int .i64 U.sketch, .int .i64 U.fine, .int .i64 U.idle, .int .i64 U.window, .int .i64 U.late, .int .i64 U.future, .slice AU nU cU])) ∧ Below X.heap.size X w') := Lib.hid (fun X => refPolicy_call U AU nU cU X)
  go_upto_region 35 with fail
  clear M0 ML BD
  have MU := HBU7.out.lt
  have hp := HP7.out.step (bdrew (Below.refl _ _))
  have bu := HBU7.out.drew
  have tu := HTU7.out.step (bdrew (Below.refl _ _))
  go_region_held3 (fun (w' : World) => ∀ i, w'.cell? ⟨gp, i, none⟩ = (#[.int .i64 U.slots, .int .i64 U.low, .int .i64 U.high, .int .i64 U.top, .int .i64 U.sketch, .int .i64 U.fine, .int .i64 U.idle, .int .i64 U.window, .int .i64 U.late, .int .i64 U.future, .slice AU nU cU] : Array Value)[i]?) (exact bu.cell)
    (first
      | (go_at_call 16; ((with_reducible refine (CST.out _ hp).mono ?_); rintro eA wA ⟨A1, m1, d1, bs1, s1, rfl, T1, I1, bA⟩; have hp2 := hp.step bA; have bu2 := Blk.step bA bu; have tu2 := tu.step bA; clear hp bu tu bA; have hp := hp2; have bu := bu2; have tu := tu2; clear hp2 bu2 tu2))
      | (go_at_call 15; ((with_reducible refine (COF.out _ _ _ _ _ _ hp tu T1 I1).mono ?_); rintro eB wB ⟨v1, kk1, rfl, bB, hof⟩; have hp2 := hp.step bB; have bu2 := Blk.step bB bu; have tu2 := tu.step bB; clear hp bu tu bB; have hp := hp2; have bu := bu2; have tu := tu2; clear hp2 bu2 tu2)))
  have HP := Lib.hid hp
  have HBU := Lib.hid bu
  have HTU := Lib.hid tu
  have HT1 := Lib.hid T1
  have HOF := Lib.hid hof
  clear hp bu tu T1 I1 hof COF HP7 HBU7 HTU7 MU
  have MU := HBU.out.cell
  have MV := HBU.out.lt
  go_wp2_with fail
  refine (CRP.out _).mono ?_
  rintro e w11 ⟨rfl, b11⟩
  have HP2 := Lib.hid (HP.out.step b11)
  have HBU2 := Lib.hid (Blk.step b11 HBU.out)
  have HTU2 := Lib.hid (HTU.out.step b11)
  have bq2 := Lib.hid b11
  clear HP HBU HTU b11 MU MV CRP
  go_wp2_with fail
  refine (rx_state HP2.out.2).mono ?_
  rintro e w12 ⟨A2, m2, d2, bs2, s2, rfl, T2, m16, I2, b12⟩
  obtain rfl : s2 = s1 := T2.unique HT1.out (List.Perm.refl _) hqt.out.1
  have HP := Lib.hid (HP2.out.step b12)
  have HBU := Lib.hid (Blk.step b12 HBU2.out)
  have HTU := Lib.hid (HTU2.out.step b12)
  have hb12 := Lib.hid (bstep b12 bq2.out)
  have CR1 := Lib.hid (CRO.out _ _ _ _ _ _ HP.out HTU.out T2 I2)
  clear HP2 HBU2 HTU2 bq2 b12 T2 I2 m16 CRO
  go_wp2_with fail
  refine CR1.out.mono ?_
  clear CR1
  rintro e w13 ⟨v2, kk2, rfl, b13, hrf⟩
  have HP3 := Lib.hid (HP.out.step b13)
  have HBU3 := Lib.hid (Blk.step b13 HBU.out)
  have HTU3 := Lib.hid (HTU.out.step b13)
  have hb13 := Lib.hid (bstep b13 hb12.out)
  clear HP HBU HTU hb12 b13
  rcases HOF.out with ⟨hok, rfl, g2, rfl, hQ2⟩ | ⟨hno, rfl, rfl⟩
  rotate_left
  · as_aux_lemma =>
    rcases hrf with ⟨hok, _⟩ | ⟨_, rfl, rfl⟩
    · exact absurd hok hno
    have HP := HP3
    have HBU := HBU3
    have HTU := HTU3
    clear HOF hno HP3 HBU3 HTU3 hb13
    have HZ := HP
    have HBQz := HBQ
    have HBUz := HBU
    have HTUz := HTU
    have HRUz := HRU
    obtain ⟨MQ, hMQ⟩ : ∃ M, manyQ q = M := ⟨_, rfl⟩
    obtain ⟨wz, hwz⟩ : ∃ M, q.win = M := ⟨_, rfl⟩
    obtain ⟨cz, hcz⟩ : ∃ M, q.closed = M := ⟨_, rfl⟩
    have CM1 : Hid (∀ V, PX w g x q q V → Calls Tryz.prog 20 #[.pointer (some ⟨g, 0, none⟩)] V fun e w' => e = .returned (.int .u64 MQ) ∧ Below V.heap.size V w') := Lib.hid (fun V h => by rw [← hMQ]; exact q_many h.1)
    have CM2 : Hid (∀ V, PX w g x q q V → Calls Tryz.prog 21 #[.pointer (some ⟨x, 0, none⟩)] V fun e w' => e = .returned (.int .u64 MQ) ∧ Below V.heap.size V w') := Lib.hid (fun V h => by rw [← hMQ]; exact rx_many h.2)
    have CC : Hid (∀ V, PX w g x q q V → Calls Tryz.prog 24 #[.pointer (some ⟨g, 0, none⟩)] V fun e w' => e = .returned (.bool cz) ∧ V = w') := Lib.hid (fun V h => by rw [← hcz]; exact q_closed h.1)
    have CW : Hid (∀ V, PX w g x q q V → Calls Tryz.prog 10 #[.pointer (some ⟨g, 0, none⟩)] V fun e w' => e = .returned (.int .i64 wz) ∧ V = w') := Lib.hid (fun V h => by rw [← hwz]; exact q_window h.1)
    have HS : Hid (∀ V, PX w g x q q V → V.cell? ⟨x, 3, none⟩ = some (.bool cz) ∧ V.cell? ⟨x, 0, none⟩ = some (.int .i64 wz)) := Lib.hid (fun V h => by
      obtain ⟨_, _, c0, _, c3, _⟩ := h.2.cells
      rw [← hcz, ← hwz]
      exact ⟨c3, c0⟩)
    have hxl : x < w13.heap.size := by obtain ⟨_, _, _, _, _, _, h, _⟩ := HZ.out.2.cells; exact h
    clear hMQ hwz hcz
    have nm : (MQ != MQ) = false := by simp
    have nc : (cz != cz) = false := by simp
    have nw : (wz != wz) = false := by simp
    go_upto_region 41 with fail
    have hz := HZ.out.step (bdrew (Below.refl _ _))
    have bz := bdrew (Below.refl w13.heap.size w13)
    go_region_held3 (fun (w' : World) => w'.cell? ⟨x, 3, none⟩ = some (.bool cz) ∧ w'.cell? ⟨x, 0, none⟩ = some (.int .i64 wz)) (exact HS.out _ hz)
      (first
        | (go_at_call 20; ((with_reducible refine (CM1.out _ hz).mono ?_); rintro eA wA ⟨rfl, bA⟩; have hz2 := hz.step bA; have bz2 := bstep bA bz; clear hz bz bA; have hz := hz2; have bz := bz2; clear hz2 bz2))
        | (go_at_call 21; ((with_reducible refine (CM2.out _ hz).mono ?_); rintro eB wB ⟨rfl, bB⟩; have hz2 := hz.step bB; have bz2 := bstep bB bz; clear hz bz bB; have hz := hz2; have bz := bz2; clear hz2 bz2))
        | (go_at_call 24; ((with_reducible refine (CC.out _ hz).mono ?_); rintro eC wC ⟨rfl, rfl⟩))
        | (go_at_call 10; ((with_reducible refine (CW.out _ hz).mono ?_); rintro eD wD ⟨rfl, rfl⟩)))
    have HHz := Lib.hid hz
    have HBz := Lib.hid bz
    clear hz bz
    go_wp2_with fail
    refine ⟨?_, by simp [Wmu, intOf]; omega⟩
    unfold WI
    refine ⟨_, _, _, _, _, _, _, _, _, _, _, _, _, _, _, _, _, _, _, _, _, _, _, _, _, _, _, _, _, _, _, _, _, _, _, _, _, _, _, _, _, _, _, _, _, _, _, _, _, _, _, _, _, _, _, _, _, _, _, _, _, _, _, _, _, _, _, _, _, _, _, _, _, _, _, _, _, _, _, _, _, _, _, _, _, _, _, _, _, _, _, _, _, _, _, _, _, _, _, _, _, _, _, _, _, _, _, _, _, _, _, _, _, _, _, _, _, _, _, _, _, _, _, _, _, _, _, _, _, _, _, _, _, _, _, _, _, _, _, _, _, _, _, _, _, _, _, _, _, _, _, _, _, _, _, _, _, _, _, _, _, _, _, _, _, _, _, _, _, _, _, _, _, _, _, _, _, _, _, _, _, _, _, _, _, _, _, _, _, _, _, _, _, _, _, _, _, _, _, _, _, _, _, _, _, _, _, _, _, _, _, _, _, _, _, _, _, _, _, _, _, _, _, _, _, _, _, _, _, _, _, j + 1, _, ⟨q, U, AU, nU, cU, tU, by omega, by omega, HHz.out, HBQz.out, Blk.step HBz.out HBUz.out, HTUz.out.step HBz.out, HRUz.out⟩, ?_, rfl⟩
    omega
  rcases hrf with ⟨_, rfl, x2, rfl, hR2⟩ | ⟨hno, _⟩
  rotate_left
  · exact absurd hok hno
  as_aux_lemma =>
  have HQ2 := Lib.hid (hQ2.step hb13.out)
  have HR2 := Lib.hid hR2
  clear HOF hok hQ2 hR2 hb13
  generalize ofQ U q.win q.closed (strOfNums q.rn) (strOfNums q.rb) q.seen s2 = qo at *
  go_wp2_with fail
  refine (q_state HQ2.out).mono ?_
  rintro e w14 ⟨y1, n1, c1, z1, t1, rfl, T3, I3, b14⟩
  have HT3 := Lib.hid T3
  have HI3 := Lib.hid I3
  have HR3 := Lib.hid (HR2.out.step b14)
  have HQ3 := Lib.hid (HQ2.out.step b14)
  have HP4 := Lib.hid (HP3.out.step b14)
  have HBU4 := Lib.hid (Blk.step b14 HBU3.out)
  have HTU4 := Lib.hid (HTU3.out.step b14)
  clear T3 I3 b14 HP3 HBU3 HTU3 HQ2 HR2
  go_wp2_with fail
  refine (rx_state HR3.out).mono ?_
  rintro e w15 ⟨y2, n3, c3, z2, t2, rfl, T4, m16, I4, b15⟩
  have CSM := Lib.hid (same_both (V3 := w15) (HQ3.out.step b15) HT3.out T4 HI3.out I4 b15 (Below.refl _ _))
  have HR5 := Lib.hid (HR3.out.step b15)
  have HQ5 := Lib.hid (HQ3.out.step b15)
  have HP5 := Lib.hid (HP4.out.step b15)
  have HBU5 := Lib.hid (Blk.step b15 HBU4.out)
  have HTU5 := Lib.hid (HTU4.out.step b15)
  clear T4 I4 b15 m16 HP4 HBU4 HTU4 HR3 HQ3 HT3 HI3
  go_wp2_with fail
  refine CSM.out.mono ?_
  clear CSM
  rintro e w16 ⟨rfl, b16⟩
  have HQ6 := Lib.hid (HQ5.out.step b16)
  have HR6 := Lib.hid (HR5.out.step b16)
  have HP6 := Lib.hid (HP5.out.step b16)
  have HBU6 := Lib.hid (Blk.step b16 HBU5.out)
  have HTU6 := Lib.hid (HTU5.out.step b16)
  clear b16 HP5 HBU5 HTU5 HQ5 HR5
  obtain ⟨MQ, hMQ⟩ : ∃ M, manyQ qo = M := ⟨_, rfl⟩
  have CM1 : Hid (Calls Tryz.prog 20 #[.pointer (some ⟨g2, 0, none⟩)] w16 fun e w' => e = .returned (.int .u64 MQ) ∧ Below w16.heap.size w16 w') := Lib.hid (by rw [← hMQ]; exact q_many HQ6.out)
  have CM2 : Hid (∀ X, RX w x2 qo X → Calls Tryz.prog 21 #[.pointer (some ⟨x2, 0, none⟩)] X fun e w' => e = .returned (.int .u64 MQ) ∧ Below X.heap.size X w') := Lib.hid (fun X h => by rw [← hMQ]; exact rx_many h)
  clear hMQ
  have nMQ : (MQ != MQ) = false := by simp
  go_wp2_with fail
  refine CM1.out.mono ?_
  clear CM1
  rintro e w17 ⟨rfl, b17⟩
  have HR7 := Lib.hid (HR6.out.step b17)
  have HP7 := Lib.hid (HP6.out.step b17)
  have HBU7 := Lib.hid (Blk.step b17 HBU6.out)
  have HTU7 := Lib.hid (HTU6.out.step b17)
  clear b17 HP6 HBU6 HTU6 HQ6 HR6
  go_wp2_with fail
  refine (CM2.out _ HR7.out).mono ?_
  clear CM2
  rintro e w18 ⟨rfl, b18⟩
  have HP := Lib.hid (HP7.out.step b18)
  have HBU := Lib.hid (Blk.step b18 HBU7.out)
  have HTU := Lib.hid (HTU7.out.step b18)
  clear b18 HP7 HBU7 HTU7 HR7 nMQ
  have HZ := HP
  have HBQz := HBQ
  have HBUz := HBU
  have HTUz := HTU
  have HRUz := HRU
  obtain ⟨MQ, hMQ⟩ : ∃ M, manyQ q = M := ⟨_, rfl⟩
  obtain ⟨wz, hwz⟩ : ∃ M, q.win = M := ⟨_, rfl⟩
  obtain ⟨cz, hcz⟩ : ∃ M, q.closed = M := ⟨_, rfl⟩
  have CM1 : Hid (∀ V, PX w g x q q V → Calls Tryz.prog 20 #[.pointer (some ⟨g, 0, none⟩)] V fun e w' => e = .returned (.int .u64 MQ) ∧ Below V.heap.size V w') := Lib.hid (fun V h => by rw [← hMQ]; exact q_many h.1)
  have CM2 : Hid (∀ V, PX w g x q q V → Calls Tryz.prog 21 #[.pointer (some ⟨x, 0, none⟩)] V fun e w' => e = .returned (.int .u64 MQ) ∧ Below V.heap.size V w') := Lib.hid (fun V h => by rw [← hMQ]; exact rx_many h.2)
  have CC : Hid (∀ V, PX w g x q q V → Calls Tryz.prog 24 #[.pointer (some ⟨g, 0, none⟩)] V fun e w' => e = .returned (.bool cz) ∧ V = w') := Lib.hid (fun V h => by rw [← hcz]; exact q_closed h.1)
  have CW : Hid (∀ V, PX w g x q q V → Calls Tryz.prog 10 #[.pointer (some ⟨g, 0, none⟩)] V fun e w' => e = .returned (.int .i64 wz) ∧ V = w') := Lib.hid (fun V h => by rw [← hwz]; exact q_window h.1)
  have HS : Hid (∀ V, PX w g x q q V → V.cell? ⟨x, 3, none⟩ = some (.bool cz) ∧ V.cell? ⟨x, 0, none⟩ = some (.int .i64 wz)) := Lib.hid (fun V h => by
    obtain ⟨_, _, c0, _, c3, _⟩ := h.2.cells
    rw [← hcz, ← hwz]
    exact ⟨c3, c0⟩)
  have hxl : x < w18.heap.size := by obtain ⟨_, _, _, _, _, _, h, _⟩ := HZ.out.2.cells; exact h
  clear hMQ hwz hcz
  have nm : (MQ != MQ) = false := by simp
  have nc : (cz != cz) = false := by simp
  have nw : (wz != wz) = false := by simp
  go_upto_region 41 with fail
  have hz := HZ.out.step (bdrew (Below.refl _ _))
  have bz := bdrew (Below.refl w18.heap.size w18)
  go_region_held3 (fun (w' : World) => w'.cell? ⟨x, 3, none⟩ = some (.bool cz) ∧ w'.cell? ⟨x, 0, none⟩ = some (.int .i64 wz)) (exact HS.out _ hz)
    (first
      | (go_at_call 20; ((with_reducible refine (CM1.out _ hz).mono ?_); rintro eA wA ⟨rfl, bA⟩; have hz2 := hz.step bA; have bz2 := bstep bA bz; clear hz bz bA; have hz := hz2; have bz := bz2; clear hz2 bz2))
      | (go_at_call 21; ((with_reducible refine (CM2.out _ hz).mono ?_); rintro eB wB ⟨rfl, bB⟩; have hz2 := hz.step bB; have bz2 := bstep bB bz; clear hz bz bB; have hz := hz2; have bz := bz2; clear hz2 bz2))
      | (go_at_call 24; ((with_reducible refine (CC.out _ hz).mono ?_); rintro eC wC ⟨rfl, rfl⟩))
      | (go_at_call 10; ((with_reducible refine (CW.out _ hz).mono ?_); rintro eD wD ⟨rfl, rfl⟩)))
  have HHz := Lib.hid hz
  have HBz := Lib.hid bz
  clear hz bz
  go_wp2_with fail
  refine ⟨?_, by simp [Wmu, intOf]; omega⟩
  unfold WI
  refine ⟨_, _, _, _, _, _, _, _, _, _, _, _, _, _, _, _, _, _, _, _, _, _, _, _, _, _, _, _, _, _, _, _, _, _, _, _, _, _, _, _, _, _, _, _, _, _, _, _, _, _, _, _, _, _, _, _, _, _, _, _, _, _, _, _, _, _, _, _, _, _, _, _, _, _, _, _, _, _, _, _, _, _, _, _, _, _, _, _, _, _, _, _, _, _, _, _, _, _, _, _, _, _, _, _, _, _, _, _, _, _, _, _, _, _, _, _, _, _, _, _, _, _, _, _, _, _, _, _, _, _, _, _, _, _, _, _, _, _, _, _, _, _, _, _, _, _, _, _, _, _, _, _, _, _, _, _, _, _, _, _, _, _, _, _, _, _, _, _, _, _, _, _, _, _, _, _, _, _, _, _, _, _, _, _, _, _, _, _, _, _, _, _, _, _, _, _, _, _, _, _, _, _, _, _, _, _, _, _, _, _, _, _, _, _, _, _, _, _, _, _, _, _, _, _, _, _, _, _, _, _, _, j + 1, _, ⟨q, U, AU, nU, cU, tU, by omega, by omega, HHz.out, HBQz.out, Blk.step HBz.out HBUz.out, HTUz.out.step HBz.out, HRUz.out⟩, ?_, rfl⟩
  omega
end Go.Proofs.YtapiehddcdnadaaGreatDoor
