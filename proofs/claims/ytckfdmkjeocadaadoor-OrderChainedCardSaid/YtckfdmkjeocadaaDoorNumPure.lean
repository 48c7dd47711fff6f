/- Plain facts on numbers as bytes (octets.Number): no program in sight. -/
import Derived.Test.YtckfdmkjeocadaaDoorLib
namespace Go.Proofs.YtckfdmkjeocadaaDoor
/-- the bytes of a number, the highest first, none for 0 -/
def numB (n : Nat) : List UInt8 := if n = 0 then [] else numB (n / 256) ++ [UInt8.ofNat (n % 256)]
termination_by n
decreasing_by omega
def numEnc (n : Nat) : List UInt8 := UInt8.ofNat (numB n).length :: numB n
theorem numB_zero : numB 0 = [] := by unfold numB; simp
theorem numB_pos {n : Nat} (h : 0 < n) : numB n = numB (n / 256) ++ [UInt8.ofNat (n % 256)] := by
  rw [numB, if_neg (by omega)]
theorem numEnc_length (n : Nat) : (numEnc n).length = (numB n).length + 1 := by simp [numEnc]
theorem numB_length_le : ∀ (k n : Nat), n < 256 ^ k → (numB n).length ≤ k
  | 0, n, h => by
    have : n = 0 := by simpa using h
    subst this; simp [numB_zero]
  | k + 1, n, h => by
    by_cases h0 : n = 0
    · subst h0; simp [numB_zero]
    · rw [numB_pos (by omega)]
      have := numB_length_le k (n / 256) (by rw [Nat.pow_succ] at h; exact Nat.div_lt_of_lt_mul (by omega))
      simp; omega
end Go.Proofs.YtckfdmkjeocadaaDoor
