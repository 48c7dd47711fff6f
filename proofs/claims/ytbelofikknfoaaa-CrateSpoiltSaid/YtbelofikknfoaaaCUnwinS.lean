/- window.Unpack's steps at a place of a text. -/
import Derived.Test.YtbelofikknfoaaaCUnwin
namespace Go.Proofs.Ytbelofikknfoaaa
open Go.RowKit
section
variable {s : ByteArray} {a : Nat} {K : List UInt8} {m : Nat}
theorem sw_end : uwin (s.data.toList.drop s.size) K m = .ok K := by
  have hl : s.data.toList.length = s.size := rfl
  rw [← hl, List.drop_length, uwin_nil]
theorem sw_255 (h : a < s.size) (h5 : (s[a]'h).toNat = 255) : uwin (s.data.toList.drop a) K m = .error 6 := by
  rw [cut_at h, uwin_255 h5]
theorem sw_short (h : a < s.size) (hc : (s[a]'h).toNat < 128) (h1 : s.size < a + 1 + ((s[a]'h).toNat + 1)) : uwin (s.data.toList.drop a) K m = .error 5 := by
  rw [cut_at h, uwin_lit hc, if_pos (by rw [left_at]; omega)]
theorem sw_big (h : a < s.size) (hc : (s[a]'h).toNat < 128) (h1 : a + 1 + ((s[a]'h).toNat + 1) ≤ s.size) (h2 : m < K.length - 68 + ((s[a]'h).toNat + 1)) : uwin (s.data.toList.drop a) K m = .error 3 := by
  rw [cut_at h, uwin_lit hc, if_neg (by rw [left_at]; omega), if_pos h2]
theorem sw_lit (h : a < s.size) (hc : (s[a]'h).toNat < 128) (h1 : a + 1 + ((s[a]'h).toNat + 1) ≤ s.size) (h2 : K.length - 68 + ((s[a]'h).toNat + 1) ≤ m) : uwin (s.data.toList.drop a) K m = uwin (s.data.toList.drop (a + 1 + ((s[a]'h).toNat + 1))) (K ++ (s.data.toList.drop (a + 1)).take ((s[a]'h).toNat + 1)) m := by
  rw [cut_at h, uwin_lit hc, if_neg (by rw [left_at]; omega), if_neg (by omega), List.drop_drop]
theorem sw_short2 (h : a < s.size) (hc : ¬ (s[a]'h).toNat < 128) (h5 : (s[a]'h).toNat ≠ 255) (h1 : s.size < a + 3) : uwin (s.data.toList.drop a) K m = .error 5 := by
  rw [cut_at h, uwin_short hc h5 (by rw [left_at]; omega)]
theorem sw_match (h : a < s.size) (hc : ¬ (s[a]'h).toNat < 128) (h5 : (s[a]'h).toNat ≠ 255) (h1 : a + 1 < s.size) (h2 : a + 2 < s.size) : uwin (s.data.toList.drop a) K m = if 32768 ≤ (s[a + 1]'h1).toNat * 256 + (s[a + 2]'h2).toNat ∨ K.length < (s[a + 1]'h1).toNat * 256 + (s[a + 2]'h2).toNat + 1 then .error 6 else if m < K.length - 68 + ((s[a]'h).toNat - 124) then .error 3 else uwin (s.data.toList.drop (a + 3)) (cpy ((s[a]'h).toNat - 124) ((s[a + 1]'h1).toNat * 256 + (s[a + 2]'h2).toNat) K) m := by
  rw [cut_at h, cut_at h1, cut_at h2, uwin_match hc h5]
end
end Go.Proofs.Ytbelofikknfoaaa
