/- crate.Open: at a text's first byte; the errors. -/
import Derived.Test.YtbelofikknfoaaaCKPk
namespace Go.Proofs.Ytbelofikknfoaaa
open Go.RowKit
theorem openL_neg (l : List UInt8) {m : Int} (h : m < 0) : openL l m = .error 2 := by
  unfold openL
  rw [if_pos h]
theorem openL_nil {m : Int} (h : ¬ m < 0) : openL [] m = .error 5 := by
  unfold openL
  rw [if_neg h]
theorem openL_at {s : ByteArray} {m : Int} (h : 0 < s.size) (hm : ¬ m < 0) : openL s.data.toList m = if 3 < (s[0]'h).toNat then .error 6 else match rdN (s.data.toList.drop 1) with
    | .error e => .error e
    | .ok (n, k) => if m < n ∨ 32768 < n then .error 3 else if (s.data.toList.drop 1).length < k + 4 then .error 5 else openT (s[0]'h).toNat (s.data.toList.drop 1) n k := by
  have hl : 0 < s.data.toList.length := h
  have e : s.data.toList = s[0]'h :: s.data.toList.drop 1 := by
    have e := List.drop_eq_getElem_cons hl
    rw [List.drop_zero] at e
    exact e
  conv => lhs; rw [e]
  unfold openL
  rw [if_neg hm]
  rfl
theorem unrun_err : ∀ (f : Nat) (l o : List UInt8) (m : Nat) (e : Int), unrun f l o m = .error e → e = 3 ∨ e = 5
  | 0, _, _, _, _, h => by simp [unrun] at h
  | f + 1, [], _, _, _, h => by simp [unrun] at h
  | f + 1, c :: r, o, m, e, h => by
    unfold unrun at h
    split at h
    · split at h
      · injection h with h; exact .inr h.symm
      · split at h
        · injection h with h; exact .inl h.symm
        · exact unrun_err f _ _ _ _ h
    · split at h
      · injection h with h; exact .inr h.symm
      · split at h
        · injection h with h; exact .inl h.symm
        · exact unrun_err f _ _ _ _ h
theorem unpL_err {w : Nat} {l : List UInt8} {m : Nat} {e : Int} (h : unpL w l m = .error e) : e = 3 ∨ e = 5 ∨ e = 6 := by
  unfold unpL at h
  split at h
  · rcases unrun_err _ _ _ _ _ h with h | h
    · exact .inl h
    · exact .inr (.inl h)
  · exact uwin8_err h
  · split at h
    · rcases unrun_err _ _ _ _ _ h with h | h
      · exact .inl h
      · exact .inr (.inl h)
    · rename_i e' h'
      injection h with h
      subst h
      exact uwin8_err h'
  · cases h
theorem unrun_len : ∀ (f : Nat) (l o : List UInt8) (m : Nat) (t : List UInt8), unrun f l o m = .ok t → t.length ≤ max o.length m
  | 0, _, o, m, t, h => by simp [unrun] at h; subst h; omega
  | f + 1, [], o, m, t, h => by simp [unrun] at h; subst h; omega
  | f + 1, c :: r, o, m, t, h => by
    unfold unrun at h
    split at h
    · split at h
      · cases h
      · split at h
        · cases h
        · have := unrun_len f _ _ _ _ h
          rw [List.length_append, List.length_take] at this
          omega
    · split at h
      · cases h
      · split at h
        · cases h
        · have := unrun_len f _ _ _ _ h
          rw [List.length_append, List.length_replicate] at this
          omega
theorem unpL_len {w : Nat} {l t : List UInt8} {m : Nat} (h : unpL w l m = .ok t) (hm : m ≤ 32768) (hl : l.length ≤ 140737488351232) : t.length ≤ 140737488351232 := by
  unfold unpL at h
  split at h
  · have := unrun_len _ _ _ _ _ h
    simp at this; omega
  · have := uwin8_len h; omega
  · split at h
    · have := unrun_len _ _ _ _ _ h
      simp at this; omega
    · cases h
  · injection h with h; rw [← h]; exact hl
/-- the sum that stands behind the length -/
theorem be4_at {s : ByteArray} {k : Nat} (h : k + 4 ≤ s.size) : be4 ((s.data.toList.drop k).take 4) = (s[k]'(by omega)).toNat * 16777216 + (s[k + 1]'(by omega)).toNat * 65536 + (s[k + 2]'(by omega)).toNat * 256 + (s[k + 3]'(by omega)).toNat := by
  have hl : s.data.toList.length = s.size := rfl
  rw [List.drop_eq_getElem_cons (show k < s.data.toList.length by omega), List.drop_eq_getElem_cons (show k + 1 < s.data.toList.length by omega), List.drop_eq_getElem_cons (show k + 1 + 1 < s.data.toList.length by omega), List.drop_eq_getElem_cons (show k + 1 + 1 + 1 < s.data.toList.length by omega)]
  rfl
end Go.Proofs.Ytbelofikknfoaaa
