/- window.Unpack: what its walks share. -/
import Derived.Test.YtbelofikknfoaaaCWUnpack7
namespace Go.Proofs.Ytbelofikknfoaaa
open Go.RowKit
set_option maxHeartbeats 1000000
theorem cpy_snoc : ∀ (n d : Nat) (k : List UInt8), cpy (n + 1) d k = cpy n d k ++ [(cpy n d k).getD ((cpy n d k).length - d - 1) 0]
  | 0, _, _ => rfl
  | n + 1, d, k => by
    show cpy (n + 1) d (k ++ [k.getD (k.length - d - 1) 0]) = _
    rw [cpy_snoc n d (k ++ [k.getD (k.length - d - 1) 0])]
    rfl
theorem OwnZ.cell {B : Nat} {v : Value} {xs : List UInt8} {w : World} (h : OwnZ B v xs w) (h0 : 0 < xs.length) : ∃ g c, v = .slice (some ⟨g, 0, none⟩) xs.length c ∧ ∀ i, i < xs.length → w.cell? ⟨g, i, none⟩ = some (.int .u8 ((xs.getD i 0).toNat : Int)) := by
  rcases h with ⟨-, rfl, -⟩ | ⟨g, cap, rest, fr, rfl, hg, hh, -⟩
  · simp at h0
  · refine ⟨g, cap, rfl, fun i hi => ?_⟩
    rw [cell_of_row w g _ _ _ _ hh, List.getElem?_toArray, List.getElem?_append_left (by rw [u8s_length]; exact hi), u8s_get xs i hi]
    simp [List.getD, List.getElem?_eq_getElem hi]
/-- the end of a row as a string -/
theorem OwnZ.tail {B g n c c2 k m : Nat} {xs : List UInt8} {w : World} (h : OwnZ B (.slice (some ⟨g, 0, none⟩) n c) xs w) (hn : n = xs.length) (hm : m + k = n) : (convert 34 9 (.slice (some ⟨g, k, none⟩) m c2)).run Try.prog w = .ok (.string (bstr (xs.drop k))) w := by
  rcases h with ⟨h, -, -⟩ | ⟨g, cap, rest, fr, h, hg, hh, -⟩
  · cases h
  · cases h
    refine conv_row (xs.drop k) Try.underlying34 Try.underlying5 Try.underlying9 (by rw [List.length_drop]; omega) fun i hi => ?_
    rw [cell_of_row w _ _ _ _ _ hh, List.getElem?_toArray, List.getElem?_append_left (by rw [u8s_length]; omega)]
    simp [u8s, List.getElem?_drop]
theorem OwnZ.cap {B g n c : Nat} {xs : List UInt8} {w : World} (h : OwnZ B (.slice (some ⟨g, 0, none⟩) n c) xs w) : n ≤ c := by
  rcases h with ⟨h, -, -⟩ | ⟨g, cap, rest, fr, h, hg, hh, hc, -⟩
  · cases h
  · injection h with h1 h2 h3
    omega
/-- .. where nothing is left -/
theorem OwnZ.tail0 {B g n c k : Nat} {xs : List UInt8} {w : World} (h : OwnZ B (.slice (some ⟨g, 0, none⟩) n c) xs w) (hn : n = xs.length) (hk : c = k) : (convert 34 9 (.slice (some ⟨g, 0, none⟩) (n - k) 0)).run Try.prog w = .ok (.string (bstr (xs.drop k))) w := by
  have hc := h.cap
  rw [show n - k = 0 by omega, List.drop_eq_nil_of_le (by omega)]
  exact conv_row [] Try.underlying34 Try.underlying5 Try.underlying9 rfl fun i hi => by omega
/-- the rest of s at a place, where the way back is short -/
theorem sw_form {s : ByteArray} {a m d : Nat} {K : List UInt8} (h : a < s.size) (hc : ¬ (s[a]'h).toNat < 128) (h5 : (s[a]'h).toNat ≠ 255) (h1 : a + 1 < s.size) (h2 : a + 2 < s.size) (hd : d = (s[a + 1]'h1).toNat * 256 + (s[a + 2]'h2).toNat) (hb : 32768 ≤ d ∨ K.length < d + 1) : uwin (s.data.toList.drop a) K m = .error 6 := by
  rw [sw_match h hc h5 h1 h2, ← hd, if_pos hb]
theorem sw_big2 {s : ByteArray} {a m d : Nat} {K : List UInt8} (h : a < s.size) (hc : ¬ (s[a]'h).toNat < 128) (h5 : (s[a]'h).toNat ≠ 255) (h1 : a + 1 < s.size) (h2 : a + 2 < s.size) (hd : d = (s[a + 1]'h1).toNat * 256 + (s[a + 2]'h2).toNat) (hb : d < 32768) (hk : d + 1 ≤ K.length) (hm : m < K.length - 68 + ((s[a]'h).toNat - 124)) : uwin (s.data.toList.drop a) K m = .error 3 := by
  rw [sw_match h hc h5 h1 h2, ← hd, if_neg (by omega), if_pos hm]
theorem sw_cpy {s : ByteArray} {a m d : Nat} {K : List UInt8} (h : a < s.size) (hc : ¬ (s[a]'h).toNat < 128) (h5 : (s[a]'h).toNat ≠ 255) (h1 : a + 1 < s.size) (h2 : a + 2 < s.size) (hd : d = (s[a + 1]'h1).toNat * 256 + (s[a + 2]'h2).toNat) (hb : d < 32768) (hk : d + 1 ≤ K.length) (hm : K.length - 68 + ((s[a]'h).toNat - 124) ≤ m) : uwin (s.data.toList.drop a) K m = uwin (s.data.toList.drop (a + 3)) (cpy ((s[a]'h).toNat - 124) d K) m := by
  rw [sw_match h hc h5 h1 h2, ← hd, if_neg (by omega), if_neg (by omega)]
end Go.Proofs.Ytbelofikknfoaaa
