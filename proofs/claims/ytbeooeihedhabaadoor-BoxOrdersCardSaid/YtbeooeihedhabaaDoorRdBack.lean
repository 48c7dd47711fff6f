/- A list, a number that is laid is read as it was, and back: plain Lean. -/
import Derived.Test.YtbeooeihedhabaaDoorRdAll
import Derived.Test.YtbeooeihedhabaaDoorCNumBack
namespace Go.Proofs.YtbeooeihedhabaaDoor
open Go.RowKit
theorem rdT_enc {s : ByteArray} (h : s.size ≤ 65536) (r : List UInt8) : rdT (encText s ++ r) = .ok (s.data.toList, (encText s).length) := by
  have hs : s.data.toList.length = s.size := rfl
  unfold rdT encText
  rw [List.append_assoc, rdN_enc (by omega)]
  simp only
  rw [if_neg (by omega), if_neg (by simp), List.drop_left, List.length_append, hs, ← hs, List.take_left]
theorem rdT_back {l t : List UInt8} {c : Nat} (h : rdT l = .ok (t, c)) : l.take c = encText (bstr t) := by
  obtain ⟨_, _, _, n, d, hn, h1, h2, rfl, rfl⟩ := rdT_ok h
  have hb := rdN_back hn
  unfold encText
  rw [bstr_toList, bstr_size, List.length_take, List.length_drop, Nat.min_eq_left (by omega), ← hb, List.take_add]
theorem rdLs_enc : ∀ (ls : List ByteArray) (left : Nat) (r : List UInt8), tot ls ≤ left → left ≤ 65536 → rdLs ls.length left (encTexts ls ++ r) = .ok (ls, (encTexts ls).length)
  | [], left, r, _, _ => by simp [rdLs, encTexts]
  | s :: ls, left, r, h, hl => by
    have hs : s.data.toList.length = s.size := rfl
    have ht : tot (s :: ls) = s.size + tot ls := by simp [tot]
    have ih := rdLs_enc ls (left - s.size) r (by omega) (by omega)
    have he : encTexts (s :: ls) = encText s ++ encTexts ls := by simp [encTexts]
    rw [List.length_cons, rdLs, he, List.append_assoc, rdT_enc (by omega)]
    simp only
    rw [if_neg (by omega), List.drop_left, hs, ih]
    simp [bstr_of]
theorem rdLs_back : ∀ {n left : Nat} {l : List UInt8} {ts : List ByteArray} {c : Nat}, rdLs n left l = .ok (ts, c) → l.take c = encTexts ts
  | 0, left, l, ts, c, h => by simp [rdLs] at h; obtain ⟨rfl, rfl⟩ := h; simp [encTexts]
  | n + 1, left, l, ts, c, h => by
    simp only [rdLs] at h
    split at h
    · simp at h
    · rename_i t d ht
      have h0 := rdT_back ht
      split at h
      · simp at h
      · split at h
        · simp at h
        · rename_i us d2 hu
          simp only [Except.ok.injEq, Prod.mk.injEq] at h
          obtain ⟨rfl, rfl⟩ := h
          have ih := rdLs_back hu
          rw [List.take_add, h0, ih]
          simp [encTexts]
theorem rdAll_enc {ls : List ByteArray} (hl : ls.length ≤ 1024) (ht : tot ls ≤ 65536) : rdAll (bstr (encList ls)) = .ok ls := by
  have h1 := rdLs_enc ls 65536 [] ht (Nat.le_refl _)
  rw [List.append_nil] at h1
  unfold rdAll rdL
  rw [bstr_toList, bstr_size]
  unfold encList
  rw [rdN_enc (by omega)]
  simp only
  rw [if_neg (by omega), List.drop_left, h1]
  simp only
  rw [List.length_append, if_pos rfl]
theorem rdAll_back {s : ByteArray} {ls : List ByteArray} (h : rdAll s = .ok ls) : s = bstr (encList ls) := by
  unfold rdAll at h
  split at h
  · simp at h
  · rename_i us c hc
    split at h
    · rename_i hcs
      simp at h
      subst h
      unfold rdL at hc
      split at hc
      · simp at hc
      · rename_i n d hn
        split at hc
        · simp at hc
        · split at hc
          · simp at hc
          · rename_i vs e hv
            simp only [Except.ok.injEq, Prod.mk.injEq] at hc
            obtain ⟨rfl, rfl⟩ := hc
            have h1 := rdN_back hn
            have h2 := rdLs_back hv
            have h3 := (rdLs_ok hv).1
            rw [← bstr_of s]
            congr 1
            unfold encList
            rw [h3, ← h1, ← h2, ← List.take_add, List.take_of_length_le (by rw [hcs]; exact Nat.le_refl _)]
    · simp at h
theorem rdNum_enc {n : Nat} (h : n ≤ 9223372036854775807) : rdNum (numS n) = .ok n := by
  have := rdN_enc h []
  rw [List.append_nil] at this
  unfold rdNum numS
  rw [bstr_toList, bstr_size, this]
  simp
theorem rdNum_back {s : ByteArray} {n : Nat} (h : rdNum s = .ok n) : s = numS n := by
  unfold rdNum at h
  split at h
  · simp at h
  · rename_i m c hc
    split at h
    · rename_i hcs
      simp at h
      subst h
      have := rdN_back hc
      rw [List.take_of_length_le (by rw [hcs]; exact Nat.le_refl _)] at this
      unfold numS
      rw [← this, bstr_of]
    · simp at h
theorem rdNum_le {s : ByteArray} {n : Nat} (h : rdNum s = .ok n) : n ≤ 9223372036854775807 := by
  unfold rdNum at h
  split at h
  · simp at h
  · rename_i m c hc
    split at h
    · simp at h
      subst h
      exact (rdN_ok hc).2.2.2
    · simp at h
theorem rdNum_err {s : ByteArray} {e : Int} (h : rdNum s = .error e) : e = 5 ∨ e = 6 := by
  unfold rdNum at h
  split at h
  · rename_i hn
    simp at h
    subst h
    exact rdN_err hn
  · split at h
    · simp at h
    · simp at h
      omega
end Go.Proofs.YtbeooeihedhabaaDoor
