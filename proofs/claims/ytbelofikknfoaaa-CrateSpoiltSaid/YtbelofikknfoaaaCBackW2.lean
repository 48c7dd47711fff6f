/- window: Unpack after Pack gives the text back. -/
import Derived.Test.YtbelofikknfoaaaCBackW
namespace Go.Proofs.Ytbelofikknfoaaa
open Go.RowKit
theorem uwin_litW {K : ByteArray} {f a m : Nat} (rest : List UInt8) (h68 : 68 ≤ f) (hf : f ≤ a) (h128 : a - f ≤ 128) (ha : a ≤ K.size) (hm : K.size - 68 ≤ m) : uwin (litW K f a ++ rest) (K.data.toList.take f) m = uwin rest (K.data.toList.take a) m := by
  have hl : K.data.toList.length = K.size := rfl
  by_cases h : f < a
  · obtain ⟨d, hd⟩ : ∃ d, a - f = d + 1 := ⟨a - f - 1, by omega⟩
    have hc : (UInt8.ofNat d).toNat = d := UInt8.toNat_ofNat_of_lt' (show d < 256 by omega)
    have hx : ((K.data.toList.drop f).take (d + 1)).length = d + 1 := by rw [List.length_take, List.length_drop, hl]; omega
    rw [litW, if_pos h, show a - f - 1 = d by omega, hd, List.cons_append]
    obtain ⟨X, hX⟩ : ∃ X, X = (K.data.toList.drop f).take (d + 1) := ⟨_, rfl⟩
    rw [← hX] at hx ⊢
    rw [uwin_lit (by rw [hc]; omega), hc, if_neg (by rw [List.length_append, hx]; omega), if_neg (by rw [List.length_take, hl]; omega)]
    rw [List.drop_left' hx, List.take_left' hx, hX, ← List.take_add, show f + (d + 1) = a by omega]
  · obtain rfl : f = a := by omega
    rw [litW_none, List.nil_append]
theorem uwin_mtW {K : ByteArray} {a n b m : Nat} (rest : List UInt8) (hb : bst K a = (n, b)) (h4 : 4 ≤ n) (h68 : 68 ≤ a) (ha : a ≤ K.size) (hm : K.size - 68 ≤ m) : uwin (mtW n b ++ rest) (K.data.toList.take a) m = uwin rest (K.data.toList.take (a + n)) m := by
  have hl : K.data.toList.length = K.size := rfl
  have h1 := cpy_bst hb (by omega) ha
  have h2 := bstD_le ha (min a 32768)
  have h3 : bstD K a (min a 32768) = (n, b) := hb
  rw [h3] at h2
  simp only at h2
  have hc : (UInt8.ofNat (n + 124)).toNat = n + 124 := UInt8.toNat_ofNat_of_lt' (show n + 124 < 256 by omega)
  have hx : (UInt8.ofNat ((b - 1) / 256)).toNat = (b - 1) / 256 := UInt8.toNat_ofNat_of_lt' (show (b - 1) / 256 < 256 by omega)
  have hy : (UInt8.ofNat ((b - 1) % 256)).toNat = (b - 1) % 256 := UInt8.toNat_ofNat_of_lt' (show (b - 1) % 256 < 256 by omega)
  show uwin (UInt8.ofNat (n + 124) :: UInt8.ofNat ((b - 1) / 256) :: UInt8.ofNat ((b - 1) % 256) :: rest) _ m = _
  rw [uwin_match (by rw [hc]; omega) (by rw [hc]; omega), hc, hx, hy, show (b - 1) / 256 * 256 + (b - 1) % 256 = b - 1 by omega, show n + 124 - 124 = n by omega]
  rw [if_neg (by rw [List.length_take, hl]; omega), if_neg (by rw [List.length_take, hl]; omega), h1.2.2.2]
theorem uwin_wpF {K : ByteArray} {m : Nat} (hm : K.size - 68 ≤ m) : ∀ (k a f : Nat), K.size - a ≤ k → 68 ≤ f → f ≤ a → a - f ≤ 127 → a ≤ K.size → uwin (wpF K a f) (K.data.toList.take f) m = .ok K.data.toList
  | k, a, f, hk, h68, hf, h127, ha => by
    have hl : K.data.toList.length = K.size := rfl
    by_cases h : K.size ≤ a
    · have := uwin_litW (K := K) (f := f) (a := a) (m := m) [] h68 hf (by omega) ha hm
      rw [List.append_nil] at this
      rw [wpF_end h, this, uwin_nil, List.take_of_length_le (by rw [hl]; omega)]
    · cases k with
      | zero => omega
      | succ k =>
        obtain ⟨n, b, hb⟩ : ∃ n b, bst K a = (n, b) := ⟨_, _, rfl⟩
        by_cases h4 : n < 4
        · by_cases h8 : a + 1 - f = 128
          · rw [wpF_cut (by omega) (by rw [hb]; exact h4) h8, uwin_litW _ h68 (by omega) (by omega) (by omega) hm]
            exact uwin_wpF hm k (a + 1) (a + 1) (by omega) (by omega) (by omega) (by omega) (by omega)
          · rw [wpF_lit (by omega) (by rw [hb]; exact h4) h8]
            exact uwin_wpF hm k (a + 1) f (by omega) (by omega) (by omega) (by omega) (by omega)
        · have h2 := bstD_le ha (min a 32768)
          have h3 : bstD K a (min a 32768) = (n, b) := hb
          rw [h3] at h2
          simp only at h2
          rw [wpF_match (by omega) hb (by omega), uwin_litW _ h68 hf (by omega) ha hm, uwin_mtW _ hb (by omega) (by omega) ha hm]
          exact uwin_wpF hm k (a + n) (a + n) (by omega) (by omega) (by omega) (by omega) (by omega)
/-- window.Unpack after window.Pack -/
theorem uwin_wpk {s : List UInt8} {m : Nat} (hm : s.length ≤ m) : uwin (wpk s) statL m = .ok (statL ++ s) := by
  have hz : (bstr (statL ++ s)).size = s.length + 68 := by rw [bstr_size, List.length_append, statL_length]; omega
  have h := uwin_wpF (K := bstr (statL ++ s)) (m := m) (by omega) _ 68 68 (Nat.le_refl _) (by omega) (by omega) (by omega) (by omega)
  have hs : (bstr (statL ++ s)).data.toList.take 68 = statL := List.take_left' rfl
  rw [hs] at h
  exact h
end Go.Proofs.Ytbelofikknfoaaa
