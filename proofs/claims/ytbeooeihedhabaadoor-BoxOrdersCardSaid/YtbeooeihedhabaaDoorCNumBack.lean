/- Reading and writing numbers: octets.Number, octets.ReadNumber and the reference's own. Numbers there and back: no program in sight. -/
import Derived.Test.YtbeooeihedhabaaDoorCBuf
import Derived.Test.YtbeooeihedhabaaDoorNums
import Derived.Test.YtbeooeihedhabaaDoorSeal
import Derived.Test.YtbeooeihedhabaaDoorRPad
import Derived.Test.YtbeooeihedhabaaDoorRRl
namespace Go.Proofs.YtbeooeihedhabaaDoor

open Go.RowKit
set_option maxHeartbeats 1000000
theorem beN_numB : ∀ (k n : Nat), n < 256 ^ k → beN (numB n) = n
  | 0, n, h => by
    have : n = 0 := by simpa using h
    subst this
    rw [numB_zero]
    rfl
  | k + 1, n, h => by
    by_cases h0 : n = 0
    · subst h0; rw [numB_zero]; rfl
    · rw [numB_pos (by omega), beN_snoc, beN_numB k (n / 256) (by rw [Nat.pow_succ] at h; exact Nat.div_lt_of_lt_mul (by omega))]
      have : (UInt8.ofNat (n % 256)).toNat = n % 256 := by simp
      rw [this]
      omega
theorem numB_head : ∀ (k n : Nat), n < 256 ^ k → 0 < n → ∃ b l, numB n = b :: l ∧ 0 < b.toNat
  | 0, n, h, h0 => by
    have : n = 0 := by simpa using h
    omega
  | k + 1, n, h, h0 => by
    rw [numB_pos h0]
    by_cases h1 : n / 256 = 0
    · rw [h1, numB_zero]
      exact ⟨_, [], rfl, by simp; omega⟩
    · obtain ⟨b, l, e, hb⟩ := numB_head k (n / 256) (by rw [Nat.pow_succ] at h; exact Nat.div_lt_of_lt_mul (by omega)) (by omega)
      rw [e]
      exact ⟨b, l ++ [_], rfl, hb⟩
theorem numB_beN_aux : ∀ (m : Nat) (l : List UInt8), l.length = m → (l.headD 1).toNat ≠ 0 → numB (beN l) = l
  | 0, l, hm, _ => by
    have : l = [] := List.length_eq_zero_iff.1 hm
    subst this
    exact numB_zero
  | m + 1, l, hm, h0 => by
    have hne : l ≠ [] := by rintro rfl; simp at hm
    obtain ⟨l', b, rfl⟩ : ∃ l' b, l = l' ++ [b] := ⟨l.dropLast, l.getLast hne, (List.dropLast_concat_getLast hne).symm⟩
    have hm' : l'.length = m := by simpa using hm
    have hb := b.toNat_lt
    have hbb : UInt8.ofNat b.toNat = b := by simp
    by_cases hl : l' = []
    · subst hl
      have h0' : b.toNat ≠ 0 := by simpa using h0
      have e : beN ([] ++ [b]) = b.toNat := by simp [beN]
      rw [e, numB_pos (by omega), show b.toNat / 256 = 0 by omega, numB_zero, show b.toNat % 256 = b.toNat by omega, hbb]
    · have hd : (l'.headD 1).toNat ≠ 0 := by
        cases l' with
        | nil => exact absurd rfl hl
        | cons x y => simpa using h0
      have ih := numB_beN_aux m l' hm' hd
      have hpos : 0 < beN l' := by
        cases l' with
        | nil => exact absurd rfl hl
        | cons x y =>
          rw [beN_cons]
          have hx : 0 < x.toNat := by simp at hd; omega
          have := Nat.mul_pos hx (Nat.pow_pos (n := y.length) (by decide : 0 < 256))
          omega
      rw [beN_snoc, numB_pos (by omega), show (beN l' * 256 + b.toNat) / 256 = beN l' by omega, show (beN l' * 256 + b.toNat) % 256 = b.toNat by omega, ih, hbb]
theorem rdN_enc {n : Nat} (h : n ≤ 9223372036854775807) (r : List UInt8) : rdN (numEnc n ++ r) = .ok (n, (numEnc n).length) := by
  have hl := numB_length_le 8 n (by omega)
  have hk : (UInt8.ofNat (numB n).length).toNat = (numB n).length := by simp; omega
  rw [numEnc_length]
  unfold numEnc
  rw [List.cons_append, rdN, hk, if_neg (by omega), if_neg (by simp), if_neg ?_, List.take_left, beN_numB 8 n (by omega)]
  rintro ⟨h0, h1⟩
  by_cases hn : n = 0
  · subst hn; rw [numB_zero] at h0; simp at h0
  · obtain ⟨b, l, e, hb⟩ := numB_head 8 n (by omega) (by omega)
    have hg : ((numB n ++ r).getD 0 0) = b := by rw [e]; rfl
    rw [hg] at h1
    rcases h1 with h1 | ⟨h8, h1⟩
    · omega
    · have h2 := beN_numB 8 n (by omega)
      rw [e] at h2 h8
      simp only [List.length_cons] at h8
      have h7 : l.length = 7 := by omega
      rw [beN_cons, h7, show (256 : Nat) ^ 7 = 72057594037927936 by decide] at h2
      omega
theorem rdN_back {l : List UInt8} {n c : Nat} (h : rdN l = .ok (n, c)) : l.take c = numEnc n := by
  cases l with
  | nil => simp [rdN] at h
  | cons k t =>
    simp only [rdN] at h
    split at h
    · simp at h
    · split at h
      · simp at h
      · split at h
        · simp at h
        · rename_i h1 h2 h3
          simp only [Except.ok.injEq, Prod.mk.injEq] at h
          obtain ⟨rfl, rfl⟩ := h
          have hlen : (t.take k.toNat).length = k.toNat := by rw [List.length_take]; omega
          have hb : numB (beN (t.take k.toNat)) = t.take k.toNat := by
            refine numB_beN_aux _ _ rfl ?_
            cases t with
            | nil => simp
            | cons x y =>
              by_cases hk : k.toNat = 0
              · rw [hk]; simp
              · obtain ⟨j, hj⟩ : ∃ j, k.toNat = j + 1 := ⟨k.toNat - 1, by omega⟩
                rw [hj, List.take_succ_cons]
                intro hx
                exact h3 ⟨by omega, .inl (by simpa using hx)⟩
          unfold numEnc
          rw [hb, hlen, List.take_succ_cons]
          simp
end Go.Proofs.YtbeooeihedhabaaDoor
