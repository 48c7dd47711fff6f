/- octets.Number: what the call does. -/
import Derived.Test.YtckfdmkjeocadaaDoorProg
import Derived.Test.YtckfdmkjeocadaaDoorNumPure
import Derived.Deep.LoopGhost
namespace Go.Proofs.YtckfdmkjeocadaaDoor
open Go.RowKit
set_option maxHeartbeats 400000 in
theorem number_neg (n : Int) (w : World) (h : n < 0) :
    Calls Tryd.prog 61 #[.int .i64 n] w fun e w' => e = .returned (.tuple #[.string ByteArray.empty, .int .i64 2]) ∧ w' = w := by
  go_enter Tryd.func61, Tryd.ntmps61
  go_wp2
  go_ret2
  exact ⟨rfl, rfl⟩
theorem num_at {m : Nat} {X : Array Value} {tl : List UInt8} (h : X = (u8s (List.replicate (m + 1) 0 ++ tl)).toArray) : X[m]? = some (.int .u8 0) := by
  subst h
  simp [u8s, List.getElem?_append]
theorem num_m1 {k m : Nat} (h : 0 < k) (h2 : k < 256 ^ m) : 1 ≤ m := by
  cases m with
  | zero => simp at h2; omega
  | succ m => omega
theorem num_lt {k m : Nat} (h : 1 ≤ m) (h2 : k < 256 ^ m) : k / 256 < 256 ^ (m - 1) := by
  obtain ⟨j, rfl⟩ : ∃ j, m = j + 1 := ⟨m - 1, by omega⟩
  rw [Nat.pow_succ] at h2
  exact Nat.div_lt_of_lt_mul (by simpa [Nat.mul_comm] using h2)
theorem num_set {m : Nat} {tl : List UInt8} (b : UInt8) (h : 1 ≤ m) : ((u8s (List.replicate (m + 1) 0 ++ tl)).toArray).setIfInBounds m (.int .u8 b.toNat) = (u8s (List.replicate (m - 1 + 1) 0 ++ b :: tl)).toArray := by
  obtain ⟨j, rfl⟩ : ∃ j, m = j + 1 := ⟨m - 1, by omega⟩
  simp only [List.setIfInBounds_toArray, Nat.add_sub_cancel]
  congr 1
  rw [List.replicate_succ' (n := j + 1)]
  simp [u8s]
theorem num_step {n k m : Nat} {X : Array Value} {tl : List UInt8} (h1 : 1 ≤ m) (hk : 0 < k) (H : m + tl.length = 8 ∧ numB n = numB k ++ tl ∧ X = (u8s (List.replicate (m + 1) 0 ++ tl)).toArray) :
    Hid (m - 1 + (UInt8.ofNat (k % 256) :: tl).length = 8 ∧ numB n = numB (k / 256) ++ UInt8.ofNat (k % 256) :: tl ∧ X.setIfInBounds m (.int .u8 ((k : Int) % 256)) = (u8s (List.replicate (m - 1 + 1) 0 ++ UInt8.ofNat (k % 256) :: tl)).toArray) := by
  obtain ⟨a, b, rfl⟩ := H
  refine ⟨by simp; omega, by rw [b, numB_pos hk]; simp, ?_⟩
  rw [← num_set _ h1]
  congr 2
  simp
theorem num_conv {n m : Nat} {X : Array Value} {tl : List UInt8} {w : World} (H : m + tl.length = 8 ∧ numB n = numB 0 ++ tl ∧ X = (u8s (List.replicate (m + 1) 0 ++ tl)).toArray) :
    (convert 79 9 (.slice (some ⟨w.heap.size, m, none⟩) (9 - m) (9 - m))).run Tryd.prog (w.alloc (.cells (X.setIfInBounds m (.int .u8 (9 - ((m : Int) + 1)))) 122)) =
      .ok (.string (bstr (numEnc n))) (w.alloc (.cells (X.setIfInBounds m (.int .u8 (9 - ((m : Int) + 1)))) 122)) := by
  obtain ⟨a, b, rfl⟩ := H
  rw [numB_zero, List.nil_append] at b
  have hb : numEnc n = UInt8.ofNat (8 - m) :: tl := by unfold numEnc; rw [b]; congr 2; omega
  refine conv_new _ Tryd.underlying79 Tryd.underlying5 Tryd.underlying9 (by rw [numEnc_length, b]; omega) fun i hi => ?_
  rw [hb, List.replicate_succ']
  cases i with
  | zero => simp [u8s]; omega
  | succ i => simp [u8s, List.getElem?_append, show m + (i + 1) - m = i + 1 by omega]; omega
set_option maxHeartbeats 400000 in
set_option maxRecDepth 4000 in
theorem number_any (n : Int) (w : World) (h : 0 ≤ n) (h2 : n ≤ 9223372036854775807) :
    Calls Tryd.prog 61 #[.int .i64 n] w fun e w' => e = .returned (.tuple #[.string (bstr (numEnc n.toNat)), .int .i64 0]) ∧ Below w.heap.size w w' := by
  obtain ⟨n, rfl⟩ := Int.eq_ofNat_of_zero_le h
  go_enter Tryd.func61, Tryd.ntmps61
  go_wp2
  go_loopw [0, 5] (fun n0 a wr => ∃ (k m : Nat) (X : Array Value) (tl : List UInt8), k ≤ 9223372036854775807 ∧ m ≤ 8 ∧ k < 256 ^ m ∧ Hid (m + tl.length = 8 ∧ numB n = numB k ++ tl ∧ X = (u8s (List.replicate (m + 1) 0 ++ tl)).toArray) ∧ n0 = .int .i64 k ∧ a = .int .i64 ((m : Int) + 1) ∧ wr = w.alloc (.cells X 122)) (fun n0 _ _ => (intOf n0).toNat)
  case atStart =>
    exact ⟨n, 8, (u8s (List.replicate (8 + 1) 0 ++ [])).toArray, [], by omega, by omega, by omega, ⟨rfl, by simp, rfl⟩, rfl, rfl, rfl⟩
  case round =>
    obtain ⟨k, m, X, tl, hk, hm, hkm, H, rfl, rfl, rfl⟩ := hrel
    have hX : X[m]? = some (.int .u8 0) := num_at H.out.2.2
    by_cases hlt : 0 < k
    · have hm1 : 1 ≤ m := num_m1 hlt hkm
      go_wp2
      refine ⟨⟨k / 256, m - 1, _, UInt8.ofNat (k % 256) :: tl, by omega, by omega, num_lt hm1 hkm, num_step hm1 hlt H.out, by go_num, ?_, rfl⟩, by simp [intOf]; omega⟩
      rw [show ((m - 1 : Nat) : Int) + 1 = m by omega]
    · have hm8 : (m : Int) ≤ 8 := by omega
      have hm9 : (m : Int) ≤ 9 := by omega
      have hm9' : m ≤ 9 := by omega
      obtain rfl : k = 0 := by omega
      have hcv := num_conv (w := w) H.out
      go_wp2
      go_ret2
      rw [Int.toNat_natCast]
      exact ⟨rfl, (Below.refl _ _).alloc (Nat.le_refl _) _⟩
end Go.Proofs.YtckfdmkjeocadaaDoor
