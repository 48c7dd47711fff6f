/- runs: Unpack after Pack gives the text back. -/
import Derived.Test.YtbelofikknfoaaaCUnrun
namespace Go.Proofs.Ytbelofikknfoaaa
open Go.RowKit
theorem runN_take (c : UInt8) : ∀ (k : Nat) (l : List UInt8), l.take (runN c k l) = List.replicate (runN c k l) c
  | 0, l => by simp [runN]
  | k + 1, [] => by simp [runN]
  | k + 1, x :: l => by
    simp only [runN]
    split
    · rename_i h
      rw [List.take_succ_cons, runN_take c k l, h, List.replicate_succ]
    · simp
theorem three_run {c : UInt8} {l : List UInt8} (h : three (c :: l) = true) : 3 ≤ runN c 130 (c :: l) := by
  match l with
  | [] => simp [three] at h
  | [x] => simp [three] at h
  | x :: y :: r =>
    simp [three] at h
    obtain ⟨rfl, rfl⟩ := h
    simp only [runN, if_true]
    omega
theorem urun_rpack : ∀ (f : Nat) (l o : List UInt8) (m : Nat), l.length ≤ f → o.length + l.length ≤ m → urun (rpack f l) o m = .ok (o ++ l)
  | 0, [], o, m, _, _ => by simp [rpack, urun_nil]
  | f + 1, [], o, m, _, _ => by simp [rpack, urun_nil]
  | 0, c :: l, o, m, h, _ => by simp at h
  | f + 1, c :: l, o, m, hf, hm => by
    unfold rpack
    by_cases h3 : three (c :: l) = true
    · have hN := three_run h3
      have hle := runN_le c 130 (c :: l)
      have ht := runN_take c 130 (c :: l)
      rw [if_pos h3]
      obtain ⟨N, hNN⟩ : ∃ N, N = runN c 130 (c :: l) := ⟨_, rfl⟩
      rw [← hNN] at hN hle ht ⊢
      have hc : (UInt8.ofNat (125 + N)).toNat = 125 + N := UInt8.toNat_ofNat_of_lt' (show 125 + N < 256 by omega)
      rw [urun_run (by rw [hc]; omega), hc, show 125 + N - 125 = N by omega, if_neg (by omega), urun_rpack f _ _ m (by rw [List.length_drop]; omega) (by rw [List.length_drop, List.length_append, List.length_replicate]; omega)]
      rw [← ht, List.append_assoc, List.take_append_drop]
    · have h3f : three (c :: l) = false := by simpa using h3
      have hp := litN_pos (k := 127) h3f
      have hle := litN_le 128 (c :: l)
      rw [if_neg h3]
      obtain ⟨N, hNN⟩ : ∃ N, N = litN 128 (c :: l) := ⟨_, rfl⟩
      rw [← hNN] at hle hp ⊢
      have hc : (UInt8.ofNat (N - 1)).toNat = N - 1 := UInt8.toNat_ofNat_of_lt' (show N - 1 < 256 by omega)
      have hx : ((c :: l).take N).length = N := by rw [List.length_take]; omega
      obtain ⟨X, hX⟩ : ∃ X, X = (c :: l).take N := ⟨_, rfl⟩
      rw [← hX] at hx ⊢
      rw [urun_lit (by rw [hc]; omega), hc, show N - 1 + 1 = N by omega, if_neg (by rw [List.length_append, hx]; omega), if_neg (by omega)]
      rw [List.drop_left' hx, List.take_left' hx, urun_rpack f _ _ m (by rw [List.length_drop]; omega) (by rw [List.length_drop, List.length_append, hx]; omega)]
      rw [hX, List.append_assoc, List.take_append_drop]
/-- runs.Unpack after runs.Pack -/
theorem urun_rpk {l : List UInt8} {m : Nat} (hm : l.length ≤ m) : urun (rpk l) [] m = .ok l := by
  have := urun_rpack l.length l [] m (Nat.le_refl _) (by simpa using hm)
  rw [List.nil_append] at this
  exact this
end Go.Proofs.Ytbelofikknfoaaa
