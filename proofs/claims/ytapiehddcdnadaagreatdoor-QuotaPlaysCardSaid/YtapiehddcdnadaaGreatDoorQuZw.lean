/- A wish, whatever it is; a policy as the document's. -/
import Derived.Test.YtapiehddcdnadaaGreatDoorQuO
import Derived.Test.YtapiehddcdnadaaGreatDoorQuZv
namespace Go.Proofs.YtapiehddcdnadaaGreatDoor
open Go.RowKit
set_option linter.unusedVariables false
set_option linter.unusedSimpArgs false

set_option maxRecDepth 100000 in
theorem wish_raw (p : PolN) (ta : Option Addr) (tn tc : Nat) (a : Option Addr) (n c : Nat) (w : World) :
    Calls Tryz.prog 6 #[wishV p ta tn tc false a n c] w fun e w' => e = .returned (polV p ta tn tc) ∧ Below w.heap.size w w' := by
  unfold wishV polV
  go_enter Tryz.func6, Tryz.ntmps6
  go_wp2_with fail
  refine bodyPost_ret (v := .agg #[.int .i64 p.slots, .int .i64 p.low, .int .i64 p.high, .int .i64 p.top, .int .i64 p.sketch, .int .i64 p.fine, .int .i64 p.idle, .int .i64 p.window, .int .i64 p.late, .int .i64 p.future, .slice ta tn tc]) (by simp [results, Tryz.results6, go_sem]) rfl ?_
  refine ⟨rfl, ?_⟩
  repeat (refine bset ?_ (by simp) _)
  exact balloc (balloc (Below.refl _ _) _) _
/-- Numbers at A, in a block below lo or from hi on. -/
structure Tiers (lo hi : Nat) (w : World) (A : Option Addr) (n : Nat) (ts : List Int) : Prop where
  ints : Ints .i64 w A n ts
  le : n ≤ 9223372036854775807
  far : 0 < n → ∃ b off, A = some ⟨b, off, none⟩ ∧ (b < lo ∨ hi ≤ b)
section
variable {lo hi : Nat} {w w' : World} {A : Option Addr} {n : Nat} {ts : List Int}
theorem Tiers.step (h : Tiers lo hi w A n ts) (hb : Below w.heap.size w w') : Tiers lo hi w' A n ts := ⟨h.ints.step hb, h.le, h.far⟩
theorem Tiers.mono {lo' hi' : Nat} (h : Tiers lo hi w A n ts) (h1 : lo ≤ lo') (h2 : hi' ≤ hi) : Tiers lo' hi' w A n ts := ⟨h.ints, h.le, fun h0 => by
  obtain ⟨b, off, e, h3⟩ := h.far h0
  exact ⟨b, off, e, by omega⟩⟩
/-- Only blocks between lo and hi have turned. -/
theorem Tiers.keep (h : Tiers lo hi w A n ts) (hk : ∀ b, (b < lo ∨ hi ≤ b) → b < w.heap.size → w'.heap[b]? = w.heap[b]?) (hs : w.heap.size ≤ w'.heap.size) : Tiers lo hi w' A n ts := by
  refine ⟨⟨h.ints.len, h.ints.wf, fun h0 => ?_⟩, h.le, h.far⟩
  obtain ⟨b, off, e, hb, hc⟩ := h.ints.at_ h0
  obtain ⟨b', off', e', h3⟩ := h.far h0
  rw [e] at e'
  injection e' with e'
  injection e' with e1 e2
  subst e1
  have hh := hk b h3 hb
  refine ⟨b, off, e, Nat.lt_of_lt_of_le hb hs, fun i hi => ?_⟩
  rw [← hc i hi]
  simp [World.cell?, hh]
theorem Tiers.grown (h : Tiers lo hi w A n ts) {g : Nat} (hG : w.grownBy w' (some g)) (h1 : lo ≤ g) (h2 : g < hi) : Tiers lo hi w' A n ts :=
  h.keep (fun b hb hl => hG.block b hl (by intro e; injection e with e; omega)) hG.size
end
/-- What a wish makes. -/
def wP (own : Bool) (p : PolN) (xs : List Int) : PolN := if own then wishP xs else p
def wT (own : Bool) (ts xs : List Int) : List Int := if own then wishT xs else ts
def WishPost (lo : Nat) (P : PolN) (ts' : List Int) (w : World) (e : Ending) (w' : World) : Prop := ∃ A n c, e = .returned (polV P A n c) ∧ Tiers lo w.heap.size w' A n ts' ∧ Below w.heap.size w w'
theorem wish_any (w0 : World) (p : PolN) (ta : Option Addr) (tn tc : Nat) (ts : List Int) (own : Bool) (a : Option Addr) (n c : Nat) (xs : List Int) (w : World) (hb0 : Below w0.heap.size w0 w) (ht : Ints .i64 w0 ta tn ts) (htn : tn ≤ 9223372036854775807) (hx : Ints .u16 w0 a n xs) (hn : n ≤ 9223372036854775807) :
    Calls Tryz.prog 6 #[wishV p ta tn tc own a n c] w (WishPost w0.heap.size (wP own p xs) (wT own ts xs) w) := by
  cases own
  · refine (wish_raw p ta tn tc a n c w).mono ?_
    rintro e w' ⟨rfl, hb⟩
    exact ⟨ta, tn, tc, rfl, ⟨(ht.step hb0).step hb, htn, fun h => by
      obtain ⟨b, off, e, hl, _⟩ := ht.at_ h
      exact ⟨b, off, e, .inl hl⟩⟩, hb⟩
  · refine (wish_new p ta tn tc a n c xs w (hx.step hb0) hn).mono ?_
    rintro e w' ⟨A, c', rfl, ⟨B, hB, hO⟩, hb⟩
    have hr := wish_right xs (nI_bd hx)
    unfold rightP at hr
    simp only [Bool.and_eq_true, decide_eq_true_eq] at hr
    refine ⟨A, _, c', rfl, ⟨hO.ints, by omega, fun h => ?_⟩, hb⟩
    obtain ⟨b, off, e, hl, _⟩ := hO.ints.at_ h
    refine ⟨b, off, e, .inr ?_⟩
    have h2 := (hO.lt b (by rw [e]; rcases hO.own.2 with ⟨e1, e2⟩ | ⟨q, cap, cur, e1, _⟩
                            · omega
                            · rw [e] at e1
                              injection e1 with e1 _ _
                              injection e1 with e1
                              injection e1 with e1 e2 _
                              subst e1
                              rfl)).1
    omega
set_option maxRecDepth 100000 in
theorem refPolicy_call (p : PolN) (a : Option Addr) (n c : Nat) (w : World) :
    Calls Tryz.prog 9 #[polV p a n c] w fun e w' => e = .returned (polV p a n c) ∧ Below w.heap.size w w' := by
  unfold polV
  go_enter Tryz.func9, Tryz.ntmps9
  go_wp2_with fail
  refine bodyPost_ret (v := .agg #[.int .i64 p.slots, .int .i64 p.low, .int .i64 p.high, .int .i64 p.top, .int .i64 p.sketch, .int .i64 p.fine, .int .i64 p.idle, .int .i64 p.window, .int .i64 p.late, .int .i64 p.future, .slice a n c]) (by simp [results, Tryz.results9, go_sem]) rfl ?_
  refine ⟨rfl, ?_⟩
  repeat (refine bset ?_ (by simp) _)
  exact balloc (balloc (Below.refl _ _) _) _
end Go.Proofs.YtapiehddcdnadaaGreatDoor
