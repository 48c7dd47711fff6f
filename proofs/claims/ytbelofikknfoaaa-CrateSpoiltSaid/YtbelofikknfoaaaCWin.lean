/- window: what Pack computes, over the bytes. -/
import Derived.Test.YtbelofikknfoaaaCBest
namespace Go.Proofs.Ytbelofikknfoaaa
open Go.RowKit
/-- bytes as they are, with their count ahead -/
def litW (s : ByteArray) (f a : Nat) : List UInt8 := if f < a then UInt8.ofNat (a - f - 1) :: (s.data.toList.drop f).take (a - f) else []
/-- a match -/
def mtW (n b : Nat) : List UInt8 := [UInt8.ofNat (n + 124), UInt8.ofNat ((b - 1) / 256), UInt8.ofNat ((b - 1) % 256)]
def wpack (s : ByteArray) : Nat → Nat → Nat → List UInt8
  | 0, a, f => litW s f a
  | k + 1, a, f =>
    if s.size ≤ a then litW s f a
    else if (bst s a).1 < 4 then (if a + 1 - f = 128 then litW s f (a + 1) ++ wpack s k (a + 1) (a + 1) else wpack s k (a + 1) f)
    else litW s f a ++ (mtW (bst s a).1 (bst s a).2 ++ wpack s k (a + (bst s a).1) (a + (bst s a).1))
theorem wpack_fuel (s : ByteArray) : ∀ (k j a f : Nat), s.size - a ≤ k → s.size - a ≤ j → wpack s k a f = wpack s j a f
  | 0, 0, a, f, _, _ => rfl
  | 0, j + 1, a, f, h, _ => by
    unfold wpack
    rw [if_pos (by omega)]
  | k + 1, 0, a, f, _, h => by
    unfold wpack
    rw [if_pos (by omega)]
  | k + 1, j + 1, a, f, h1, h2 => by
    unfold wpack
    by_cases h : s.size ≤ a
    · rw [if_pos h, if_pos h]
    · rw [if_neg h, if_neg h, wpack_fuel s k j (a + 1) (a + 1) (by omega) (by omega), wpack_fuel s k j (a + 1) f (by omega) (by omega)]
      by_cases h4 : (bst s a).1 < 4
      · rw [if_pos h4, if_pos h4]
      · rw [if_neg h4, if_neg h4, wpack_fuel s k j (a + (bst s a).1) _ (by omega) (by omega)]
/-- what Pack makes from a place on, with what is still to be laid as it is from f on -/
def wpF (s : ByteArray) (a f : Nat) : List UInt8 := wpack s (s.size - a) a f
theorem wpF_end {s : ByteArray} {a : Nat} (h : s.size ≤ a) (f : Nat) : wpF s a f = litW s f a := by
  rw [wpF, Nat.sub_eq_zero_of_le h, wpack]
theorem wpF_step {s : ByteArray} {a : Nat} (h : a < s.size) (f : Nat) : wpF s a f = if (bst s a).1 < 4 then (if a + 1 - f = 128 then litW s f (a + 1) ++ wpF s (a + 1) (a + 1) else wpF s (a + 1) f) else litW s f a ++ (mtW (bst s a).1 (bst s a).2 ++ wpF s (a + (bst s a).1) (a + (bst s a).1)) := by
  obtain ⟨k, hk⟩ : ∃ k, s.size - a = k + 1 := ⟨s.size - a - 1, by omega⟩
  rw [wpF, hk, wpack, if_neg (by omega)]
  simp only [wpF]
  rw [wpack_fuel s k (s.size - (a + 1)) (a + 1) (a + 1) (by omega) (by omega), wpack_fuel s k (s.size - (a + 1)) (a + 1) f (by omega) (by omega)]
  by_cases h4 : (bst s a).1 < 4
  · rw [if_pos h4, if_pos h4]
  · rw [if_neg h4, if_neg h4, wpack_fuel s k (s.size - (a + (bst s a).1)) _ _ (by omega) (by omega)]
theorem wpF_lit {s : ByteArray} {a f : Nat} (h : a < s.size) (h4 : (bst s a).1 < 4) (h1 : a + 1 - f ≠ 128) : wpF s a f = wpF s (a + 1) f := by
  rw [wpF_step h, if_pos h4, if_neg h1]
theorem wpF_cut {s : ByteArray} {a f : Nat} (h : a < s.size) (h4 : (bst s a).1 < 4) (h1 : a + 1 - f = 128) : wpF s a f = litW s f (a + 1) ++ wpF s (a + 1) (a + 1) := by
  rw [wpF_step h, if_pos h4, if_pos h1]
theorem wpF_match {s : ByteArray} {a f n b : Nat} (h : a < s.size) (hb : bst s a = (n, b)) (h4 : 4 ≤ n) : wpF s a f = litW s f a ++ (mtW n b ++ wpF s (a + n) (a + n)) := by
  rw [wpF_step h, hb, if_neg (by simp only; omega)]
theorem litW_none (s : ByteArray) (a : Nat) : litW s a a = [] := by rw [litW, if_neg (by omega)]
/-- the reference lays what is left at the end of all in the same round -/
theorem wpF_last {s : ByteArray} {a f : Nat} (h : a < s.size) (h4 : (bst s a).1 < 4) (h1 : a + 1 = s.size) : wpF s a f = litW s f (a + 1) ++ wpF s (a + 1) (a + 1) := by
  rw [wpF_end (s := s) (a := a + 1) (by omega), litW_none, List.append_nil]
  by_cases h8 : a + 1 - f = 128
  · rw [wpF_cut h h4 h8, wpF_end (by omega), litW_none, List.append_nil]
  · rw [wpF_lit h h4 h8, wpF_end (by omega)]
/-- window.Pack -/
def wpk (l : List UInt8) : List UInt8 := wpF (bstr (statL ++ l)) 68 68
theorem litW_length (s : ByteArray) (f a : Nat) : (litW s f a).length ≤ a - f + 1 := by
  unfold litW
  split
  · simp only [List.length_cons, List.length_take]; omega
  · simp
theorem litW_length2 {s : ByteArray} {f a : Nat} (h : f < a) (ha : a ≤ s.size) : (litW s f a).length = a - f + 1 := by
  have hl : s.data.toList.length = s.size := rfl
  rw [litW, if_pos h, List.length_cons, List.length_take, List.length_drop, hl]
  omega
/-- never more than twice as long -/
theorem wpF_length (s : ByteArray) : ∀ (k a f : Nat), s.size - a ≤ k → f ≤ a → a ≤ s.size → (wpF s a f).length ≤ 2 * (s.size - f)
  | k, a, f, hk, hf, ha => by
    by_cases h : s.size ≤ a
    · rw [wpF_end h]
      unfold litW
      split
      · simp only [List.length_cons, List.length_take]; omega
      · simp
    · have hle := bstD_le ha (min a 32768)
      rw [wpF_step (by omega)]
      cases k with
      | zero => omega
      | succ k =>
        have i1 := wpF_length s k (a + 1) (a + 1) (by omega) (by omega) (by omega)
        have i2 := wpF_length s k (a + 1) f (by omega) (by omega) (by omega)
        split
        · split
          · rw [List.length_append]
            have := litW_length s f (a + 1)
            omega
          · omega
        · have hb : (bst s a).1 = (bstD s a (min a 32768)).1 := rfl
          have i3 := wpF_length s k (a + (bst s a).1) (a + (bst s a).1) (by omega) (by omega) (by omega)
          have := litW_length s f a
          rw [List.length_append, List.length_append]
          simp only [mtW, List.length_cons, List.length_nil]
          omega
end Go.Proofs.Ytbelofikknfoaaa
