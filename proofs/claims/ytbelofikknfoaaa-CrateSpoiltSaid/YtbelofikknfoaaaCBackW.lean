/- window: a match copied tells the text. -/
import Derived.Test.YtbelofikknfoaaaCUnwin
import Derived.Test.YtbelofikknfoaaaCWin
namespace Go.Proofs.Ytbelofikknfoaaa
open Go.RowKit
theorem cpy_match (KL : List UInt8) : ∀ (n a b : Nat), 1 ≤ b → b ≤ a → a + n ≤ KL.length → (∀ j, j < n → KL.getD (a + j) 0 = KL.getD (a - b + j) 0) → cpy n (b - 1) (KL.take a) = KL.take (a + n)
  | 0, a, b, _, _, _, _ => rfl
  | n + 1, a, b, h1, h2, h3, h4 => by
    have hl : (KL.take a).length = a := by rw [List.length_take]; omega
    have h0 := h4 0 (by omega)
    rw [Nat.add_zero, Nat.add_zero] at h0
    have hx : (KL.take a).getD ((KL.take a).length - (b - 1) - 1) 0 = KL.getD a 0 := by
      rw [hl, show a - (b - 1) - 1 = a - b by omega, h0, List.getD_eq_getElem?_getD, List.getD_eq_getElem?_getD, List.getElem?_take_of_lt (by omega)]
    have hs : KL.take a ++ [KL.getD a 0] = KL.take (a + 1) := by
      rw [List.take_add_one, List.getD_eq_getElem?_getD, List.getElem?_eq_getElem (show a < KL.length by omega)]
      rfl
    rw [cpy, hx, hs, cpy_match KL n (a + 1) b h1 (by omega) (by omega) (fun j hj => by
      have := h4 (j + 1) (by omega)
      rw [show a + 1 + j = a + (j + 1) by omega, show a + 1 - b + j = a - b + (j + 1) by omega]
      exact this), show a + 1 + n = a + (n + 1) by omega]
/-- .. and the longest match is one -/
theorem cpy_mch {K : ByteArray} {a b n : Nat} (hb : 1 ≤ b) (hba : b ≤ a) (hn : n ≤ mch K a (a - b)) (ha : a ≤ K.size) : cpy n (b - 1) (K.data.toList.take a) = K.data.toList.take (a + n) := by
  have hl : K.data.toList.length = K.size := rfl
  have hle := mch_le ha (a - b)
  refine cpy_match _ n a b hb hba (by rw [hl]; omega) fun j hj => ?_
  have h := eqN_at 130 (K.data.toList.drop a) (K.data.toList.drop (a - b)) j (by unfold mch at hn; omega) (by rw [List.length_drop, hl]; omega) (by rw [List.length_drop, hl]; omega)
  rw [List.getElem_drop, List.getElem_drop] at h
  rw [List.getD_eq_getElem?_getD, List.getD_eq_getElem?_getD, List.getElem?_eq_getElem (by rw [hl]; omega), List.getElem?_eq_getElem (by rw [hl]; omega)]
  exact h
theorem bstD_is {K : ByteArray} {a : Nat} : ∀ (d n b : Nat), bstD K a d = (n, b) → 0 < n → 1 ≤ b ∧ b ≤ d ∧ n = mch K a (a - b)
  | 0, n, b, h, h0 => by simp [bstD] at h; omega
  | d + 1, n, b, h, h0 => by
    unfold bstD at h
    split at h
    · obtain ⟨rfl, rfl⟩ := Prod.mk.inj h
      exact ⟨by omega, by omega, rfl⟩
    · have := bstD_is d n b h h0
      exact ⟨this.1, by omega, this.2.2⟩
/-- what Unpack makes of a match that Pack found -/
theorem cpy_bst {K : ByteArray} {a n b : Nat} (h : bst K a = (n, b)) (h0 : 0 < n) (ha : a ≤ K.size) : 1 ≤ b ∧ b ≤ a ∧ b ≤ 32768 ∧ cpy n (b - 1) (K.data.toList.take a) = K.data.toList.take (a + n) := by
  have h1 := bstD_is _ n b h h0
  have h2 : b ≤ a := by omega
  exact ⟨h1.1, h2, by omega, cpy_mch h1.1 h2 (by rw [← h1.2.2]; exact Nat.le_refl _) ha⟩
end Go.Proofs.Ytbelofikknfoaaa
