/- SHA-256 as the reference pads it: plain Lean. -/
import Derived.Test.YtckfdmkjeocadaaDoorBuf
namespace Go.Proofs.YtckfdmkjeocadaaDoor
def padZ (n : Nat) : Nat := (119 - n % 64) % 64
def padB (bits : Nat) : Nat → List UInt8
  | 0 => []
  | i + 1 => padB bits i ++ [UInt8.ofNat (bits / 2 ^ (8 * (7 - i)) % 256)]
theorem padB_length (bits : Nat) : ∀ i, (padB bits i).length = i
  | 0 => rfl
  | i + 1 => by simp [padB, padB_length bits i]
def pad (l : List UInt8) : List UInt8 := l ++ [128] ++ zr (padZ l.length) ++ padB (l.length * 8) 8
theorem pad_length (l : List UInt8) : (pad l).length = l.length + 1 + padZ l.length + 8 := by
  simp [pad, zr_length, padB_length]
  omega
theorem runFrom_congr (s : St) (a b : List UInt8) : ∀ k, (∀ q, q < k → blk a q = blk b q) → runFrom s a k = runFrom s b k
  | 0, _ => rfl
  | k + 1, h => by
    rw [runFrom, runFrom, runFrom_congr s a b k fun q hq => h q (by omega), h k (by omega)]
theorem runFrom_add (s : St) (a : List UInt8) (m : Nat) : ∀ k, runFrom s a (m + k) = runFrom (runFrom s a m) (a.drop (64 * m)) k
  | 0 => rfl
  | k + 1 => by
    rw [← Nat.add_assoc, runFrom, runFrom, runFrom_add s a m k]
    congr 1
    unfold blk
    rw [List.drop_drop]
    congr 2
    omega
theorem blk_append {a b : List UInt8} {q : Nat} (h : 64 * q + 64 ≤ a.length) : blk (a ++ b) q = blk a q := by
  unfold blk
  rw [List.drop_append_of_le_length (by omega), List.take_append_of_le_length (by rw [List.length_drop]; omega)]
theorem set_end (A B C : List UInt8) (k : Nat) (x y : UInt8) (h : B.length = k) : (A ++ (B ++ y :: C)).set (A.length + k) x = A ++ (B ++ x :: C) := by
  subst h
  rw [List.set_append_right _ _ (by omega), Nat.add_sub_cancel_left, List.set_append_right _ _ (by omega), Nat.sub_self]
  rfl
theorem lens_end (A C : List UInt8) (bits : Nat) (x0 x1 x2 x3 x4 x5 x6 x7 : UInt8) :
    lens (A ++ (x0 :: x1 :: x2 :: x3 :: x4 :: x5 :: x6 :: x7 :: C)) (A.length + 8) bits 8 = A ++ (padB bits 8 ++ C) := by
  simp only [lens, padB]
  rw [show A.length + 8 - 1 - 0 = A.length + 7 by omega, show A.length + 8 - 1 - 1 = A.length + 6 by omega, show A.length + 8 - 1 - 2 = A.length + 5 by omega, show A.length + 8 - 1 - 3 = A.length + 4 by omega,
    show A.length + 8 - 1 - 4 = A.length + 3 by omega, show A.length + 8 - 1 - 5 = A.length + 2 by omega, show A.length + 8 - 1 - 6 = A.length + 1 by omega, show A.length + 8 - 1 - 7 = A.length + 0 by omega]
  rw [show x0 :: x1 :: x2 :: x3 :: x4 :: x5 :: x6 :: x7 :: C = [x0, x1, x2, x3, x4, x5, x6] ++ x7 :: C from rfl, set_end _ _ _ 7 _ _ rfl]
  rw [show ∀ y, [x0, x1, x2, x3, x4, x5, x6] ++ y :: C = [x0, x1, x2, x3, x4, x5] ++ x6 :: (y :: C) from fun _ => rfl, set_end _ _ _ 6 _ _ rfl]
  rw [show ∀ y z, [x0, x1, x2, x3, x4, x5] ++ z :: (y :: C) = [x0, x1, x2, x3, x4] ++ x5 :: (z :: (y :: C)) from fun _ _ => rfl, set_end _ _ _ 5 _ _ rfl]
  rw [show ∀ y : List UInt8, [x0, x1, x2, x3, x4] ++ y = [x0, x1, x2, x3] ++ x4 :: y from fun _ => rfl, set_end _ _ _ 4 _ _ rfl]
  rw [show ∀ y : List UInt8, [x0, x1, x2, x3] ++ y = [x0, x1, x2] ++ x3 :: y from fun _ => rfl, set_end _ _ _ 3 _ _ rfl]
  rw [show ∀ y : List UInt8, [x0, x1, x2] ++ y = [x0, x1] ++ x2 :: y from fun _ => rfl, set_end _ _ _ 2 _ _ rfl]
  rw [show ∀ y : List UInt8, [x0, x1] ++ y = [x0] ++ x1 :: y from fun _ => rfl, set_end _ _ _ 1 _ _ rfl]
  rw [show ∀ y : List UInt8, [x0] ++ y = [] ++ x0 :: y from fun _ => rfl, set_end _ _ _ 0 _ _ rfl]
  rfl
theorem zr_add (a b : Nat) : zr (a + b) = zr a ++ zr b := by unfold zr; rw [List.replicate_append_replicate]
theorem shaEnd_eq {l : List UInt8} {m n sz : Nat} (h1 : 64 * m ≤ l.length) (h2 : n = l.length - 64 * m) (h3 : n < 64) (h4 : sz = if 56 ≤ n then 128 else 64) :
    shaEnd l m sz = (pad l).drop (64 * m) ++ zr (128 - sz) := by
  have hT : (l.drop (64 * m)).length = n := by rw [List.length_drop, h2]
  have hp : padZ l.length = sz - 8 - n - 1 := by
    unfold padZ
    split at h4 <;> omega
  have hsz : n + 9 ≤ sz ∧ sz ≤ 128 := by split at h4 <;> omega
  have hd : (pad l).drop (64 * m) = l.drop (64 * m) ++ ([128] ++ zr (padZ l.length)) ++ padB (l.length * 8) 8 := by
    unfold pad
    rw [List.append_assoc, List.append_assoc, List.append_assoc, List.append_assoc, List.drop_append_of_le_length h1]
  rw [hd, shaEnd, ← h2]
  have e1 : (l.drop (64 * m) ++ zr (128 - n)).set n 128 = (l.drop (64 * m) ++ ([128] ++ zr (padZ l.length))) ++ (0 :: 0 :: 0 :: 0 :: 0 :: 0 :: 0 :: 0 :: zr (128 - sz)) := by
    rw [show 128 - n = 1 + (padZ l.length + (8 + (128 - sz))) by omega, zr_add, zr_add, zr_add]
    rw [show zr 1 = [0] from rfl, show zr 8 = [0, 0, 0, 0, 0, 0, 0, 0] from rfl]
    have := set_end (l.drop (64 * m)) [] (zr (padZ l.length) ++ ([0, 0, 0, 0, 0, 0, 0, 0] ++ zr (128 - sz))) 0 128 0 rfl
    rw [hT, Nat.add_zero] at this
    refine Eq.trans this ?_
    simp
  have e2 : (l.drop (64 * m) ++ ([128] ++ zr (padZ l.length))).length + 8 = sz := by
    simp only [List.length_append, hT, zr_length, List.length_cons, List.length_nil, hp]
    omega
  rw [e1]
  have := lens_end (l.drop (64 * m) ++ ([128] ++ zr (padZ l.length))) (zr (128 - sz)) (l.length * 8) 0 0 0 0 0 0 0 0
  rw [e2] at this
  rw [this, ← List.append_assoc]
theorem sha_pad (l : List UInt8) : (runFrom shaInit (pad l) ((pad l).length / 64)).out = sha l := by
  obtain ⟨m, hm⟩ : ∃ m, m = l.length / 64 := ⟨_, rfl⟩
  obtain ⟨n, hn⟩ : ∃ n, n = l.length - 64 * m := ⟨_, rfl⟩
  obtain ⟨sz, hsz⟩ : ∃ sz, sz = if 56 ≤ n then 128 else 64 := ⟨_, rfl⟩
  have h1 : 64 * m ≤ l.length := by omega
  have h3 : n < 64 := by omega
  have hl : (pad l).length = 64 * m + sz := by
    rw [pad_length]
    unfold padZ
    split at hsz <;> omega
  have hk : (pad l).length / 64 = m + sz / 64 := by rw [hl]; split at hsz <;> omega
  have hse := shaEnd_eq h1 hn h3 hsz
  rw [hk, runFrom_add]
  have e1 : runFrom shaInit (pad l) m = runFrom shaInit l m := runFrom_congr _ _ _ m fun q hq => by
    unfold pad
    rw [List.append_assoc, List.append_assoc]
    exact blk_append (by omega)
  have e2 : ∀ s, runFrom s ((pad l).drop (64 * m)) (sz / 64) = runFrom s (shaEnd l m sz) (sz / 64) := fun s => runFrom_congr _ _ _ _ fun q hq => by
    rw [hse]
    refine (blk_append ?_).symm
    rw [List.length_drop, hl]
    omega
  rw [e1, e2]
  have := sha_eq h1 hn h3 hsz
  rw [this]
  unfold shaEnd
  rw [← hn]
end Go.Proofs.YtckfdmkjeocadaaDoor
