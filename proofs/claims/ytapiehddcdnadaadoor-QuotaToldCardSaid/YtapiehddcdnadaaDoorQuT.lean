/- State of a quota. -/
import Derived.Test.YtapiehddcdnadaaDoorQuA
namespace Go.Proofs.YtapiehddcdnadaaDoor
open Go.RowKit
set_option linter.unusedVariables false
set_option linter.unusedSimpArgs false

section
variable {W w w' : World} {g gn gb gt : Nat} {q : QS}
/-- A block of another kind has turned. -/
theorem Qt.other (h : Qt W g gn gb gt q w) {b : Nat} {t : TypeId} {cs : Array Value} (hB : Blk w b t cs) (h1 : t ≠ 64) (h2 : t ≠ 81) (h3 : t ≠ 83) (h4 : t ≠ 52) (hb : W.heap.size ≤ b) (hG : w.grownBy w' (some b)) : Qt W g gn gb gt q w' := by
  obtain ⟨cs2, hB2⟩ := h.tm.blk
  exact ⟨Blk.grown hG h.blk (by intro e; injection e with e; exact hB.ne_ h.blk h1 e.symm), h.now.grown hG (by intro e; injection e with e; exact hB.ne_ h.now.blk h2 e.symm), h.bef.grown hG (by intro e; injection e with e; exact hB.ne_ h.bef.blk h2 e.symm), h.ne, h.tm.grown hB (hB.ne_ hB2 h3) h4 hb hG, h.g0, h.gn0, h.gb0, h.win0, h.low0⟩
end
def set6 (w : World) (b : Nat) (v0 v1 v2 v3 v4 v5 : Value) : World := (((((w.setCell ⟨b, 0, none⟩ v0).setCell ⟨b, 1, none⟩ v1).setCell ⟨b, 2, none⟩ v2).setCell ⟨b, 3, none⟩ v3).setCell ⟨b, 4, none⟩ v4).setCell ⟨b, 5, none⟩ v5
theorem set6_grown (w : World) (b : Nat) (v0 v1 v2 v3 v4 v5 : Value) : w.grownBy (set6 w b v0 v1 v2 v3 v4 v5) (some b) := by
  unfold set6
  repeat refine only_setCell ?_ (.inl rfl) _
  exact only_refl _ _
theorem Blk.set6 {w : World} {b : Nat} {t : TypeId} {a0 a1 a2 a3 a4 a5 : Value} (h : Blk w b t #[a0, a1, a2, a3, a4, a5]) (v0 v1 v2 v3 v4 v5 : Value) : Blk (Proofs.YtapiehddcdnadaaDoor.set6 w b v0 v1 v2 v3 v4 v5) b t #[v0, v1, v2, v3, v4, v5] := (((((h.put 0 v0).put 1 v1).put 2 v2).put 3 v3).put 4 v4).put 5 v5
def stateV (q : QS) (A : Option Addr) (n c : Nat) : Value := .agg #[.int .i64 q.win, .bool q.closed, .string (strOfNums q.rn), .string (strOfNums q.rb), .int .u64 q.seen, .slice A n c]
def StatePost (w : World) (q : QS) (e : Ending) (w' : World) : Prop := ∃ A n c bs s, e = .returned (stateV q A n c) ∧ Told q.l s ∧ Its w' bs A n c s ∧ Below w.heap.size w w'
set_option maxRecDepth 100000 in
set_option maxHeartbeats 4000000 in
theorem state_call {W w : World} {g gn gb gt : Nat} {q : QS} (h : Qt W g gn gb gt q w) :
    Calls Tryd.prog 13 #[.pointer (some ⟨g, 0, none⟩)] w (StatePost w q) := by
  have HR1 : Hid (∀ W : World, Sk W gn q.b q.rn → Calls Tryd.prog 30 #[.pointer (some ⟨gn, 0, none⟩)] W fun e w' => e = .returned (.string (strOfNums q.rn)) ∧ W = w') := Lib.hid (fun W hW => Registers_any gn q.b q.rn W hW)
  have HR2 : Hid (∀ W : World, Sk W gb q.b q.rb → Calls Tryd.prog 30 #[.pointer (some ⟨gb, 0, none⟩)] W fun e w' => e = .returned (.string (strOfNums q.rb)) ∧ W = w') := Lib.hid (fun W hW => Registers_any gb q.b q.rb W hW)
  have HP : Hid (∀ e w', StatePost w q e w' ↔ ∃ A n c bs s, e = .returned (.agg #[.int .i64 q.win, .bool q.closed, .string (strOfNums q.rn), .string (strOfNums q.rb), .int .u64 q.seen, .slice A n c]) ∧ Told q.l s ∧ Its w' bs A n c s ∧ Below w.heap.size w w') := Lib.hid (fun e w' => Iff.rfl)
  generalize StatePost w q = PP at *
  generalize strOfNums q.rn = s1 at *
  generalize strOfNums q.rb = s2 at *
  have HW : Hid (W.heap.size ≤ w.heap.size) := Lib.hid h.below.size
  have HQ : Hid (Qt W g gn gb gt q w) := Lib.hid h
  clear h
  go_enter Tryd.func13, Tryd.ntmps13
  go_upto_region 1 with fail
  have B := Blk.new w 43 #[.int .i64 0, .bool false, .string ⟨#[]⟩, .string ⟨#[]⟩, .int .u64 0, .slice none 0 0]
  have A := HQ.out.step (balloc (Below.refl _ w) (.cells #[.int .i64 0, .bool false, .string ⟨#[]⟩, .string ⟨#[]⟩, .int .u64 0, .slice none 0 0] 43))
  have bb := balloc (Below.refl w.heap.size w) (.cells #[.int .i64 0, .bool false, .string ⟨#[]⟩, .string ⟨#[]⟩, .int .u64 0, .slice none 0 0] 43)
  clear HQ
  generalize (w.alloc (.cells #[.int .i64 0, .bool false, .string ⟨#[]⟩, .string ⟨#[]⟩, .int .u64 0, .slice none 0 0] 43)) = w1 at *
  replace B := B.drew
  replace A := A.drew
  replace bb := bdrew bb
  go_region_held3 (fun w' => w'.cell? ⟨g, 0, none⟩ = some (.int .i64 q.win) ∧ w'.cell? ⟨g, 1, none⟩ = some (.pointer (some ⟨gn, 0, none⟩)) ∧ w'.cell? ⟨g, 2, none⟩ = some (.pointer (some ⟨gb, 0, none⟩)) ∧ w'.cell? ⟨g, 3, none⟩ = some (.bool q.closed) ∧ w'.cell? ⟨g, 6, none⟩ = some (.pointer (some ⟨gt, 0, none⟩))) (first | (with_reducible exact ⟨A.c0, A.c1, A.c2, A.c3, A.c6⟩) | exact ⟨A3.c0, A3.c1, A3.c2, A3.c3, A3.c6⟩)
    (first
      | (go_at_call 30; ((with_reducible refine (HR1.out _ A.now).mono ?_); rintro eA wA ⟨rfl, rfl⟩))
      | (go_at_call 30; ((with_reducible refine (HR2.out _ A.bef).mono ?_); rintro eA wA ⟨rfl, rfl⟩))
      | (go_at_call 31; ((with_reducible refine (tm_seen A.tm).mono ?_); rintro eA wA ⟨rfl, rfl⟩))
      | (go_at_call 32; ((with_reducible refine (tm_items A.tm).mono ?_); rintro eA wA ⟨RA, Rn, Rc, Rs, rfl, RT, RI, _, Rb⟩; have A2 := A.step Rb; have B2 := Blk.step Rb B; have bb2 := bstep Rb bb; clear A B bb; have A := A2; have B := B2; have bb := bb2; clear A2 B2 bb2 Rb; have kl := B.lt; have kf := B.frozen; have k0 := B.cell; have A3 := A.other B (by decide) (by decide) (by decide) (by decide) HW.out (set6_grown wA w.heap.size (.int .i64 q.win) (.bool q.closed) (.string s1) (.string s2) (.int .u64 q.seen) (.slice RA Rn Rc)))))
  have B6 := B.set6 (.int .i64 q.win) (.bool q.closed) (.string s1) (.string s2) (.int .u64 q.seen) (.slice RA Rn Rc)
  have G6 := set6_grown wA w.heap.size (.int .i64 q.win) (.bool q.closed) (.string s1) (.string s2) (.int .u64 q.seen) (.slice RA Rn Rc)
  have I6 : Its (set6 wA w.heap.size (.int .i64 q.win) (.bool q.closed) (.string s1) (.string s2) (.int .u64 q.seen) (.slice RA Rn Rc)) _ RA Rn Rc Rs := ⟨RI.own.kept G6 (.inr (fun e => RI.far B (by decide) e.symm))⟩
  have b6 := bgrown bb G6 (fun k hk => by injection hk with hk; omega)
  change Exit.then _ _ _ _ (set6 wA w.heap.size (.int .i64 q.win) (.bool q.closed) (.string s1) (.string s2) (.int .u64 q.seen) (.slice RA Rn Rc))
  clear A A3 B k0 kf kl G6 RI bb
  generalize (set6 wA w.heap.size (.int .i64 q.win) (.bool q.closed) (.string s1) (.string s2) (.int .u64 q.seen) (.slice RA Rn Rc)) = w9 at *
  have CP := B6.cell
  go_wp2_with fail
  refine bodyPost_ret (v := .agg #[.int .i64 q.win, .bool q.closed, .string s1, .string s2, .int .u64 q.seen, .slice RA Rn Rc]) (by simp [results, Tryd.results13, go_sem, CP]) rfl ?_
  exact (HP.out _ _).2 ⟨RA, Rn, Rc, _, Rs, rfl, RT, I6, b6⟩
end Go.Proofs.YtapiehddcdnadaaDoor
