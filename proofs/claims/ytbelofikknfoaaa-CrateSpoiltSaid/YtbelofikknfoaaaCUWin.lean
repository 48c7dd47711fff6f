/- window.Unpack: the errors, and how long what it tells may be. -/
import Derived.Test.YtbelofikknfoaaaCCrate
import Derived.Test.YtbelofikknfoaaaCWU7
import Derived.Test.YtbelofikknfoaaaCWUn
namespace Go.Proofs.Ytbelofikknfoaaa
open Go.RowKit
theorem unwin_err : ∀ (f : Nat) (l k : List UInt8) (m : Nat) (e : Int), unwin f l k m = .error e → e = 3 ∨ e = 5 ∨ e = 6
  | 0, _, _, _, _, h => by simp [unwin] at h
  | f + 1, [], _, _, _, h => by simp [unwin] at h
  | f + 1, c :: r, k, m, e, h => by
    unfold unwin at h
    split at h
    · injection h with h; exact .inr (.inr h.symm)
    · split at h
      · split at h
        · injection h with h; exact .inr (.inl h.symm)
        · split at h
          · injection h with h; exact .inl h.symm
          · exact unwin_err f _ _ _ _ h
      · split at h
        · split at h
          · injection h with h; exact .inr (.inr h.symm)
          · split at h
            · injection h with h; exact .inl h.symm
            · exact unwin_err f _ _ _ _ h
        · injection h with h; exact .inr (.inl h.symm)
theorem unwin_len : ∀ (f : Nat) (l k : List UInt8) (m : Nat) (K : List UInt8), unwin f l k m = .ok K → K.length ≤ max k.length (m + 68)
  | 0, _, k, m, K, h => by simp [unwin] at h; subst h; omega
  | f + 1, [], k, m, K, h => by simp [unwin] at h; subst h; omega
  | f + 1, c :: r, k, m, K, h => by
    unfold unwin at h
    split at h
    · cases h
    · split at h
      · split at h
        · cases h
        · split at h
          · cases h
          · have := unwin_len f _ _ _ _ h
            rw [List.length_append, List.length_take] at this
            omega
      · split at h
        · split at h
          · cases h
          · split at h
            · cases h
            · have := unwin_len f _ _ _ _ h
              rw [cpy_length] at this
              omega
        · cases h
theorem uwin8_err {l : List UInt8} {m : Nat} {e : Int} (h : uwin8 l m = .error e) : e = 3 ∨ e = 5 ∨ e = 6 := by
  unfold uwin8 at h
  split at h
  · cases h
  · rename_i e' h'
    injection h with h
    subst h
    exact unwin_err _ _ _ _ _ h'
theorem uwin8_len {l t : List UInt8} {m : Nat} (h : uwin8 l m = .ok t) : t.length ≤ m := by
  unfold uwin8 at h
  split at h
  · rename_i K h'
    injection h with h
    have := unwin_len _ _ _ _ _ h'
    rw [statL_length] at this
    rw [← h, List.length_drop]
    omega
  · cases h
end Go.Proofs.Ytbelofikknfoaaa
