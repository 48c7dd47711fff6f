/- runs: what Pack computes, over lists of bytes. -/
import Derived.Test.YtbelofikknfoaaaCPure
namespace Go.Proofs.Ytbelofikknfoaaa
open Go.RowKit
/-- do at least three equal bytes stand ahead? -/
def three : List UInt8 → Bool
  | a :: b :: c :: _ => a == b && a == c
  | _ => false
/-- how many equal bytes stand ahead, at most k -/
def runN (c : UInt8) : Nat → List UInt8 → Nat
  | 0, _ => 0
  | _, [] => 0
  | k + 1, x :: l => if x = c then runN c k l + 1 else 0
/-- how many bytes go as they are, at most k -/
def litN : Nat → List UInt8 → Nat
  | 0, _ => 0
  | _, [] => 0
  | k + 1, x :: l => if three (x :: l) = true then 0 else litN k l + 1
def rpack : Nat → List UInt8 → List UInt8
  | 0, _ => []
  | _, [] => []
  | f + 1, c :: l => if three (c :: l) = true then UInt8.ofNat (125 + runN c 130 (c :: l)) :: c :: rpack f ((c :: l).drop (runN c 130 (c :: l)))
      else UInt8.ofNat (litN 128 (c :: l) - 1) :: ((c :: l).take (litN 128 (c :: l)) ++ rpack f ((c :: l).drop (litN 128 (c :: l))))
/-- runs.Pack -/
def rpk (l : List UInt8) : List UInt8 := rpack l.length l
theorem runN_le (c : UInt8) : ∀ (k : Nat) (l : List UInt8), runN c k l ≤ k ∧ runN c k l ≤ l.length
  | 0, l => by simp [runN]
  | k + 1, [] => by simp [runN]
  | k + 1, x :: l => by
    have := runN_le c k l
    simp only [runN, List.length_cons]
    split <;> omega
theorem litN_le : ∀ (k : Nat) (l : List UInt8), litN k l ≤ k ∧ litN k l ≤ l.length
  | 0, l => by simp [litN]
  | k + 1, [] => by simp [litN]
  | k + 1, x :: l => by
    have := litN_le k l
    simp only [litN, List.length_cons]
    split <;> omega
theorem runN_pos (c : UInt8) (k : Nat) (l : List UInt8) : 0 < runN c (k + 1) (c :: l) := by simp [runN]
theorem litN_pos {k : Nat} {c : UInt8} {l : List UInt8} (h : three (c :: l) = false) : 0 < litN (k + 1) (c :: l) := by simp [litN, h]
theorem rpack_fuel : ∀ (f g : Nat) (l : List UInt8), l.length ≤ f → l.length ≤ g → rpack f l = rpack g l
  | f, g, [], _, _ => by cases f <;> cases g <;> rfl
  | 0, _, c :: l, h, _ => by simp at h
  | _, 0, c :: l, _, h => by simp at h
  | f + 1, g + 1, c :: l, hf, hg => by
    simp only [List.length_cons] at hf hg
    unfold rpack
    by_cases h3 : three (c :: l) = true
    · rw [if_pos h3, if_pos h3]
      have h1 : 0 < runN c 130 (c :: l) := runN_pos c 129 l
      rw [rpack_fuel f g ((c :: l).drop (runN c 130 (c :: l))) (by rw [List.length_drop, List.length_cons]; omega) (by rw [List.length_drop, List.length_cons]; omega)]
    · rw [if_neg h3, if_neg h3]
      have h1 : 0 < litN 128 (c :: l) := litN_pos (k := 127) (show three (c :: l) = false by simpa using h3)
      rw [rpack_fuel f g ((c :: l).drop (litN 128 (c :: l))) (by rw [List.length_drop, List.length_cons]; omega) (by rw [List.length_drop, List.length_cons]; omega)]
theorem rpk_nil : rpk [] = [] := rfl
theorem rpk_run {c : UInt8} {l : List UInt8} (h : three (c :: l) = true) : rpk (c :: l) = UInt8.ofNat (125 + runN c 130 (c :: l)) :: c :: rpk ((c :: l).drop (runN c 130 (c :: l))) := by
  have h1 : 0 < runN c 130 (c :: l) := runN_pos c 129 l
  show rpack (l.length + 1) (c :: l) = _
  rw [rpack, if_pos h, rpk, rpack_fuel l.length _ _ (by rw [List.length_drop, List.length_cons]; omega) (Nat.le_refl _)]
theorem rpk_lit {c : UInt8} {l : List UInt8} (h : three (c :: l) = false) : rpk (c :: l) = UInt8.ofNat (litN 128 (c :: l) - 1) :: ((c :: l).take (litN 128 (c :: l)) ++ rpk ((c :: l).drop (litN 128 (c :: l)))) := by
  have h1 : 0 < litN 128 (c :: l) := litN_pos (k := 127) h
  show rpack (l.length + 1) (c :: l) = _
  rw [rpack, if_neg (by rw [h]; decide), rpk, rpack_fuel l.length _ _ (by rw [List.length_drop, List.length_cons]; omega) (Nat.le_refl _)]
/-- how many bytes go as they are, told by the places -/
theorem litN_is : ∀ (k m : Nat) (l : List UInt8), m ≤ k → m ≤ l.length → (∀ j, j < m → three (l.drop j) = false) → (m = k ∨ m = l.length ∨ three (l.drop m) = true) → litN k l = m
  | 0, m, l, hk, _, _, _ => by simp [litN]; omega
  | k + 1, m, [], _, hl, _, _ => by simp [litN] at hl ⊢; omega
  | k + 1, 0, x :: l, _, _, _, he => by
    rcases he with h | h | h
    · omega
    · simp at h
    · simp only [List.drop_zero] at h
      simp [litN, h]
  | k + 1, m + 1, x :: l, hk, hl, hj, he => by
    have h0 : three (x :: l) = false := hj 0 (by omega)
    have ih := litN_is k m l (by omega) (by simpa using hl) (fun j hjm => hj (j + 1) (by omega)) (by
      rcases he with h | h | h
      · exact .inl (by omega)
      · exact .inr (.inl (by simpa using h))
      · exact .inr (.inr h))
    simp [litN, h0, ih]
/-- a stretch that ends -/
theorem rpk_stretch {s : List UInt8} {f a : Nat} (hfa : f < a) (hal : a ≤ s.length) (h128 : a - f ≤ 128) (hno : ∀ j, f ≤ j → j < a → three (s.drop j) = false) (he : a - f = 128 ∨ a = s.length ∨ three (s.drop a) = true) :
    rpk (s.drop f) = UInt8.ofNat (a - f - 1) :: ((s.drop f).take (a - f) ++ rpk (s.drop a)) := by
  have hl : litN 128 (s.drop f) = a - f := by
    refine litN_is 128 (a - f) (s.drop f) h128 (by rw [List.length_drop]; omega) (fun j hj => ?_) ?_
    · rw [List.drop_drop]
      exact hno _ (by omega) (by omega)
    · rcases he with h | h | h
      · exact .inl h
      · exact .inr (.inl (by rw [List.length_drop]; omega))
      · exact .inr (.inr (by rw [List.drop_drop, show f + (a - f) = a by omega]; exact h))
  have h3 := hno f (Nat.le_refl _) hfa
  cases hd : s.drop f with
  | nil =>
    have := congrArg List.length hd
    rw [List.length_drop, List.length_nil] at this
    omega
  | cons c l =>
    rw [hd] at h3 hl
    rw [rpk_lit h3, hl]
    have h4 : (c :: l).drop (a - f) = s.drop a := by rw [← hd, List.drop_drop, show f + (a - f) = a by omega]
    rw [h4]
theorem three_at {s : List UInt8} {a : Nat} (h : a + 2 < s.length) : three (s.drop a) = (s[a]'(by omega) == s[a + 1]'(by omega) && s[a]'(by omega) == s[a + 2]'h) := by
  rw [List.drop_eq_getElem_cons (show a < s.length by omega), List.drop_eq_getElem_cons (show a + 1 < s.length by omega), List.drop_eq_getElem_cons (show a + 1 + 1 < s.length by omega)]
  rfl
theorem three_end {s : List UInt8} {a : Nat} (h : s.length ≤ a + 2) : three (s.drop a) = false := by
  have hl : (s.drop a).length ≤ 2 := by rw [List.length_drop]; omega
  match s.drop a, hl with
  | [], _ => rfl
  | [_], _ => rfl
  | [_, _], _ => rfl
/-- how many equal bytes stand ahead, told by the places -/
theorem runN_is (c : UInt8) : ∀ (k m : Nat) (l : List UInt8), m ≤ k → m ≤ l.length → (∀ j (h : j < l.length), j < m → l[j]'h = c) → (m = k ∨ m = l.length ∨ ∃ h : m < l.length, l[m]'h ≠ c) → runN c k l = m
  | 0, m, l, hk, _, _, _ => by simp [runN]; omega
  | k + 1, m, [], _, hl, _, _ => by simp [runN] at hl ⊢; omega
  | k + 1, 0, x :: l, _, _, _, he => by
    rcases he with h | h | ⟨h, h2⟩
    · omega
    · simp at h
    · simp only [List.getElem_cons_zero] at h2
      simp [runN, h2]
  | k + 1, m + 1, x :: l, hk, hl, hj, he => by
    have h0 : x = c := hj 0 (by simp) (by omega)
    have ih := runN_is c k m l (by omega) (by simpa using hl) (fun j h hjm => hj (j + 1) (by simpa using h) (by omega)) (by
      rcases he with h | h | ⟨h, h2⟩
      · exact .inl (by omega)
      · exact .inr (.inl (by simpa using h))
      · exact .inr (.inr ⟨by simpa using h, by simpa using h2⟩))
    simp [runN, h0, ih]
end Go.Proofs.Ytbelofikknfoaaa
