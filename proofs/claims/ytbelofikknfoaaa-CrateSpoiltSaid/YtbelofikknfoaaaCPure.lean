/- crate: sums and runs: what the functions compute, over lists of bytes. -/
import Derived.WalkKit
import Derived.Lib.Hide
namespace Go.Proofs.Ytbelofikknfoaaa
open Go.RowKit
def crcBit (x : Nat) : Nat := if x % 2 = 0 then x / 2 else (x / 2) ^^^ 3988292384
def itN (f : Nat → Nat) : Nat → Nat → Nat
  | 0, x => x
  | k + 1, x => f (itN f k x)
def crcAll (l : List UInt8) : Nat := l.foldl (fun x b => itN crcBit 8 (x ^^^ b.toNat)) 4294967295
/-- CRC-32 -/
def crc (l : List UInt8) : Nat := 4294967295 - crcAll l
/-- .. bit by bit -/
def rBit (b k y : Nat) : Nat := if (b / 2 ^ k % 2 + y % 2) % 2 = 1 then (y / 2) ^^^ 3988292384 else y / 2
def rIt (b : Nat) : Nat → Nat → Nat
  | 0, x => x
  | k + 1, x => rBit b k (rIt b k x)
theorem xor_mod_two (a b : Nat) : (a ^^^ b) % 2 = (a % 2 + b % 2) % 2 := by
  have h : (a ^^^ b) % 2 ^ 1 = (a % 2 ^ 1) ^^^ (b % 2 ^ 1) := Nat.xor_mod_two_pow
  rw [Nat.pow_one] at h
  rw [h]
  rcases Nat.mod_two_eq_zero_or_one a with h1 | h1 <;> rcases Nat.mod_two_eq_zero_or_one b with h2 | h2 <;> rw [h1, h2] <;> rfl
theorem rIt_it (b x : Nat) : ∀ k, itN crcBit k (x ^^^ b) = rIt b k x ^^^ (b / 2 ^ k)
  | 0 => by simp [itN, rIt]
  | k + 1 => by
    have ih := rIt_it b x k
    show crcBit (itN crcBit k (x ^^^ b)) = _
    rw [ih]
    show _ = rBit b k (rIt b k x) ^^^ (b / 2 ^ (k + 1))
    unfold rBit
    generalize rIt b k x = y
    have hd : b / 2 ^ (k + 1) = b / 2 ^ k / 2 := by rw [Nat.pow_succ, Nat.div_div_eq_div_mul]
    rw [hd]
    generalize b / 2 ^ k = z
    unfold crcBit
    have h1 := xor_mod_two y z
    have h2 : (y ^^^ z) / 2 = y / 2 ^^^ z / 2 := Nat.xor_div_two
    rw [h2]
    by_cases h : (z % 2 + y % 2) % 2 = 1
    · rw [if_neg (by omega), if_pos h, Nat.xor_assoc, Nat.xor_comm (z / 2), ← Nat.xor_assoc]
    · rw [if_pos (by omega), if_neg h]
theorem rIt_byte (b x : Nat) (hb : b < 256) : itN crcBit 8 (x ^^^ b) = rIt b 8 x := by
  rw [rIt_it b x 8, Nat.div_eq_of_lt hb, Nat.xor_zero]
theorem xor_lt32 {a b : Nat} (ha : a < 4294967296) (hb : b < 4294967296) : a ^^^ b < 4294967296 := Nat.xor_lt_two_pow (n := 32) ha hb
theorem crcBit_lt {x : Nat} (h : x < 4294967296) : crcBit x < 4294967296 := by
  unfold crcBit
  split
  · omega
  · exact xor_lt32 (by omega) (by decide)
theorem itN_lt : ∀ (k : Nat) {x : Nat}, x < 4294967296 → itN crcBit k x < 4294967296
  | 0, _, h => h
  | k + 1, _, h => crcBit_lt (itN_lt k h)
theorem rBit_lt {b k y : Nat} (h : y < 4294967296) : rBit b k y < 4294967296 := by
  unfold rBit
  split
  · exact xor_lt32 (by omega) (by decide)
  · omega
theorem rIt_lt (b : Nat) : ∀ (k : Nat) {x : Nat}, x < 4294967296 → rIt b k x < 4294967296
  | 0, _, h => h
  | k + 1, _, h => rBit_lt (rIt_lt b k h)
theorem byte_lt (b : UInt8) : b.toNat < 256 := b.toNat_lt
theorem crc_step {x : Nat} (h : x < 4294967296) (b : UInt8) : itN crcBit 8 (x ^^^ b.toNat) < 4294967296 := itN_lt 8 (xor_lt32 h (Nat.lt_trans (byte_lt b) (by decide)))
theorem crcAll_take (l : List UInt8) (i : Nat) (h : i < l.length) : crcAll (l.take (i + 1)) = itN crcBit 8 (crcAll (l.take i) ^^^ (l[i]'h).toNat) := by
  unfold crcAll
  rw [List.take_succ_eq_append_getElem h, List.foldl_append]
  rfl
theorem crcAll_lt (l : List UInt8) : crcAll l < 4294967296 := by
  unfold crcAll
  have : ∀ (l : List UInt8) (x : Nat), x < 4294967296 → l.foldl (fun x b => itN crcBit 8 (x ^^^ b.toNat)) x < 4294967296 := by
    intro l
    induction l with
    | nil => exact fun x h => h
    | cons a l ih => exact fun x h => ih _ (crc_step h a)
  exact this l _ (by decide)
end Go.Proofs.Ytbelofikknfoaaa
