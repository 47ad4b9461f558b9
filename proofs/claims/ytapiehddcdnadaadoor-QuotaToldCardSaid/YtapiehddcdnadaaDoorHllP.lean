/- Plain words for the sketch: the rank of a sum, what an addition does to the registers. Numbers and lists alone. -/
import Derived.Lib.TrailingZeros
import Derived.Below
namespace Go.Proofs.YtapiehddcdnadaaDoor

/-- Where the first bit of h from b on stands. -/
def rk (h b : Nat) : Nat := min (Lib.ctz 64 (h / 2 ^ b)) (64 - b) + 1
/-- A rank as a register takes it. -/
def rk26 (h b : Nat) : Int := ((min (rk h b) 26 : Nat) : Int)
theorem rk26_bd (h b : Nat) : 1 ≤ rk26 h b ∧ rk26 h b ≤ 26 := by unfold rk26 rk; omega
/-- The registers behind an addition. -/
def addR (b : Nat) (r : List Int) (h : Nat) : List Int := r.set (h % 2 ^ b) (max (r.getD (h % 2 ^ b) 0) (rk26 h b))
/-- Did the addition turn its register? -/
def addB (b : Nat) (r : List Int) (h : Nat) : Bool := decide (r.getD (h % 2 ^ b) 0 < rk26 h b)
theorem addR_len (b : Nat) (r : List Int) (h : Nat) : (addR b r h).length = r.length := by simp [addR]
end Go.Proofs.YtapiehddcdnadaaDoor
