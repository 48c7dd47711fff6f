/- Reading and writing numbers: octets.Number, octets.ReadNumber and the reference's own: what the calls do. -/
import Derived.Test.YtbelofikknfoaaaCBuf
import Derived.Test.YtbelofikknfoaaaProg
import Derived.Deep.LoopGhost
import Derived.Deep.DeepCutAuto
namespace Go.Proofs.Ytbelofikknfoaaa
open Go.RowKit
def beN (l : List UInt8) : Nat := l.foldl (fun n b => n * 256 + b.toNat) 0
def rdN : List UInt8 → Except Int (Nat × Nat)
  | [] => .error 5
  | k :: t =>
    if 8 < k.toNat then .error 6
    else if t.length < k.toNat then .error 5
    else if 0 < k.toNat ∧ ((t.getD 0 0).toNat = 0 ∨ k.toNat = 8 ∧ 127 < (t.getD 0 0).toNat) then .error 6
    else .ok (beN (t.take k.toNat), k.toNat + 1)
theorem beN_snoc (l : List UInt8) (b : UInt8) : beN (l ++ [b]) = beN l * 256 + b.toNat := by simp [beN]
theorem beN_acc : ∀ (l : List UInt8) (n : Nat), l.foldl (fun n b => n * 256 + b.toNat) n = n * 256 ^ l.length + beN l
  | [], n => by simp [beN]
  | b :: l, n => by
    have h1 := beN_acc l (n * 256 + b.toNat)
    have h2 := beN_acc l b.toNat
    have h3 : beN (b :: l) = l.foldl (fun n b => n * 256 + b.toNat) b.toNat := by simp [beN]
    rw [List.foldl_cons, h1, h3, h2, List.length_cons, Nat.pow_succ, Nat.add_mul, Nat.mul_assoc, Nat.mul_comm 256]
    omega
theorem beN_cons (b : UInt8) (l : List UInt8) : beN (b :: l) = b.toNat * 256 ^ l.length + beN l := by
  rw [← beN_acc]; simp [beN]
theorem beN_lt : ∀ (l : List UInt8), beN l < 256 ^ l.length
  | [] => by simp [beN]
  | b :: l => by
    have h1 := beN_lt l
    have h2 := b.toNat_lt
    rw [beN_cons, List.length_cons, Nat.pow_succ]
    have h3 : b.toNat * 256 ^ l.length ≤ 255 * 256 ^ l.length := Nat.mul_le_mul_right _ (by omega)
    omega
theorem rdN_err {l : List UInt8} {e : Int} (h : rdN l = .error e) : e = 5 ∨ e = 6 := by
  cases l with
  | nil => simp [rdN] at h; omega
  | cons k t =>
    simp only [rdN] at h
    split at h
    · simp at h; omega
    · split at h
      · simp at h; omega
      · split at h
        · simp at h; omega
        · simp at h
theorem rdN_ok {l : List UInt8} {n c : Nat} (h : rdN l = .ok (n, c)) : 1 ≤ c ∧ c ≤ l.length ∧ c ≤ 9 ∧ n ≤ 9223372036854775807 := by
  cases l with
  | nil => simp [rdN] at h
  | cons k t =>
    simp only [rdN] at h
    split at h
    · simp at h
    · split at h
      · simp at h
      · split at h
        · simp at h
        · rename_i h1 h2 h3
          simp only [Except.ok.injEq, Prod.mk.injEq] at h
          obtain ⟨rfl, rfl⟩ := h
          refine ⟨by omega, by simp; omega, by omega, ?_⟩
          have h4 := beN_lt (t.take k.toNat)
          rw [List.length_take, Nat.min_eq_left (by omega)] at h4
          by_cases h7 : k.toNat ≤ 7
          · have h5 := Nat.pow_le_pow_right (by decide : 0 < 256) h7
            have e : (256 : Nat) ^ 7 = 72057594037927936 := by decide
            omega
          · have e8 : k.toNat = 8 := by omega
            rw [e8] at h3 h4 h2 ⊢
            cases t with
            | nil => simp at h2
            | cons b t =>
              have hb : b.toNat ≤ 127 := by
                rcases Nat.lt_or_ge 127 b.toNat with hb | hb
                · exact absurd ⟨by omega, .inr ⟨rfl, by simpa using hb⟩⟩ h3
                · exact hb
              rw [List.take_succ_cons, beN_cons]
              have h6 := beN_lt (t.take 7)
              simp only [List.length_cons] at h2
              rw [List.length_take, Nat.min_eq_left (by omega)] at h6 ⊢
              have e : (256 : Nat) ^ 7 = 72057594037927936 := by decide
              rw [e] at h6 ⊢
              omega
set_option maxHeartbeats 400000 in
theorem number_neg (n : Int) (w : World) (h : n < 0) :
    Calls Try.prog 20 #[.int .i64 n] w fun e w' => e = .returned (.tuple #[.string ByteArray.empty, .int .i64 2]) ∧ w' = w := by
  go_enter Try.func20, Try.ntmps20
  go_wp2
  go_ret2
  exact ⟨rfl, rfl⟩
theorem num_at {m : Nat} {X : Array Value} {tl : List UInt8} (h : X = (u8s (List.replicate (m + 1) 0 ++ tl)).toArray) : X[m]? = some (.int .u8 0) := by
  subst h
  simp [u8s, List.getElem?_append]
theorem num_m1 {k m : Nat} (h : 0 < k) (h2 : k < 256 ^ m) : 1 ≤ m := by
  cases m with
  | zero => simp at h2; omega
  | succ m => omega
theorem num_lt {k m : Nat} (h : 1 ≤ m) (h2 : k < 256 ^ m) : k / 256 < 256 ^ (m - 1) := by
  obtain ⟨j, rfl⟩ : ∃ j, m = j + 1 := ⟨m - 1, by omega⟩
  rw [Nat.pow_succ] at h2
  exact Nat.div_lt_of_lt_mul (by simpa [Nat.mul_comm] using h2)
theorem num_set {m : Nat} {tl : List UInt8} (b : UInt8) (h : 1 ≤ m) : ((u8s (List.replicate (m + 1) 0 ++ tl)).toArray).setIfInBounds m (.int .u8 b.toNat) = (u8s (List.replicate (m - 1 + 1) 0 ++ b :: tl)).toArray := by
  obtain ⟨j, rfl⟩ : ∃ j, m = j + 1 := ⟨m - 1, by omega⟩
  simp only [List.setIfInBounds_toArray, Nat.add_sub_cancel]
  congr 1
  rw [List.replicate_succ' (n := j + 1)]
  simp [u8s]
theorem num_step {n k m : Nat} {X : Array Value} {tl : List UInt8} (h1 : 1 ≤ m) (hk : 0 < k) (H : m + tl.length = 8 ∧ numB n = numB k ++ tl ∧ X = (u8s (List.replicate (m + 1) 0 ++ tl)).toArray) :
    Hid (m - 1 + (UInt8.ofNat (k % 256) :: tl).length = 8 ∧ numB n = numB (k / 256) ++ UInt8.ofNat (k % 256) :: tl ∧ X.setIfInBounds m (.int .u8 ((k : Int) % 256)) = (u8s (List.replicate (m - 1 + 1) 0 ++ UInt8.ofNat (k % 256) :: tl)).toArray) := by
  obtain ⟨a, b, rfl⟩ := H
  refine ⟨by simp; omega, by rw [b, numB_pos hk]; simp, ?_⟩
  rw [← num_set _ h1]
  congr 2
  simp
theorem num_conv {n m : Nat} {X : Array Value} {tl : List UInt8} {w : World} (H : m + tl.length = 8 ∧ numB n = numB 0 ++ tl ∧ X = (u8s (List.replicate (m + 1) 0 ++ tl)).toArray) :
    (convert 34 9 (.slice (some ⟨w.heap.size, m, none⟩) (9 - m) (9 - m))).run Try.prog (w.alloc (.cells (X.setIfInBounds m (.int .u8 (9 - ((m : Int) + 1)))) 43)) =
      .ok (.string (bstr (numEnc n))) (w.alloc (.cells (X.setIfInBounds m (.int .u8 (9 - ((m : Int) + 1)))) 43)) := by
  obtain ⟨a, b, rfl⟩ := H
  rw [numB_zero, List.nil_append] at b
  have hb : numEnc n = UInt8.ofNat (8 - m) :: tl := by unfold numEnc; rw [b]; congr 2; omega
  refine conv_new _ Try.underlying34 Try.underlying5 Try.underlying9 (by rw [numEnc_length, b]; omega) fun i hi => ?_
  rw [hb, List.replicate_succ']
  cases i with
  | zero => simp [u8s]; omega
  | succ i => simp [u8s, List.getElem?_append, show m + (i + 1) - m = i + 1 by omega]; omega
set_option maxHeartbeats 400000 in
set_option maxRecDepth 4000 in
theorem number_any (n : Int) (w : World) (h : 0 ≤ n) (h2 : n ≤ 9223372036854775807) :
    Calls Try.prog 20 #[.int .i64 n] w fun e w' => e = .returned (.tuple #[.string (bstr (numEnc n.toNat)), .int .i64 0]) ∧ Below w.heap.size w w' := by
  obtain ⟨n, rfl⟩ := Int.eq_ofNat_of_zero_le h
  go_enter Try.func20, Try.ntmps20
  go_wp2
  go_loopw [0, 5] (fun n0 a wr => ∃ (k m : Nat) (X : Array Value) (tl : List UInt8), k ≤ 9223372036854775807 ∧ m ≤ 8 ∧ k < 256 ^ m ∧ Hid (m + tl.length = 8 ∧ numB n = numB k ++ tl ∧ X = (u8s (List.replicate (m + 1) 0 ++ tl)).toArray) ∧ n0 = .int .i64 k ∧ a = .int .i64 ((m : Int) + 1) ∧ wr = w.alloc (.cells X 43)) (fun n0 _ _ => (intOf n0).toNat)
  case atStart =>
    exact ⟨n, 8, (u8s (List.replicate (8 + 1) 0 ++ [])).toArray, [], by omega, by omega, by omega, ⟨rfl, by simp, rfl⟩, rfl, rfl, rfl⟩
  case round =>
    obtain ⟨k, m, X, tl, hk, hm, hkm, H, rfl, rfl, rfl⟩ := hrel
    have hX : X[m]? = some (.int .u8 0) := num_at H.out.2.2
    by_cases hlt : 0 < k
    · have hm1 : 1 ≤ m := num_m1 hlt hkm
      go_wp2
      refine ⟨⟨k / 256, m - 1, _, UInt8.ofNat (k % 256) :: tl, by omega, by omega, num_lt hm1 hkm, num_step hm1 hlt H.out, by go_num, ?_, rfl⟩, by simp [intOf]; omega⟩
      rw [show ((m - 1 : Nat) : Int) + 1 = m by omega]
    · have hm8 : (m : Int) ≤ 8 := by omega
      have hm9 : (m : Int) ≤ 9 := by omega
      have hm9' : m ≤ 9 := by omega
      obtain rfl : k = 0 := by omega
      have hcv := num_conv (w := w) H.out
      go_wp2
      go_ret2
      rw [Int.toNat_natCast]
      exact ⟨rfl, (Below.refl _ _).alloc (Nat.le_refl _) _⟩
theorem byte_at {s : ByteArray} {a : Nat} (h : a < s.size) : s.data.toList.drop a = (s[a]'h) :: s.data.toList.drop (a + 1) := by
  have h' : a < s.data.toList.length := h
  rw [List.drop_eq_getElem_cons h']
  rfl
set_option maxHeartbeats 400000 in
theorem rn_end (s : ByteArray) (w : World) (_hs : s.size ≤ 140737488355328) :
    Calls Try.prog 21 #[.string s, .int .i64 s.size] w fun e w' => e = .returned (.tuple #[.int .i64 0, .int .i64 0, .int .i64 5]) ∧ w' = w := by
  go_enter Try.func21, Try.ntmps21
  go_wp2
  go_ret3
  exact ⟨rfl, rfl⟩
set_option maxHeartbeats 400000 in
theorem rn_e6a (s : ByteArray) (a : Nat) (w : World) (_hs : s.size ≤ 140737488355328) (ha : a < s.size) (h8 : 8 < ((s[a]'ha).toNat : Int)) :
    Calls Try.prog 21 #[.string s, .int .i64 a] w fun e w' => e = .returned (.tuple #[.int .i64 0, .int .i64 0, .int .i64 6]) ∧ w' = w := by
  have hbd : ((s[a]'ha).toNat : Int) ≤ 255 := by have := (s[a]'ha).toNat_lt; omega
  have hlt : (a : Int) < s.size := by omega
  go_enter Try.func21, Try.ntmps21
  go_wp2
  go_ret3
  exact ⟨rfl, rfl⟩
set_option maxHeartbeats 400000 in
theorem rn_e5 (s : ByteArray) (a : Nat) (w : World) (_hs : s.size ≤ 140737488355328) (ha : a < s.size) (h8 : ((s[a]'ha).toNat : Int) ≤ 8) (hl : (s.size : Int) - a - 1 < ((s[a]'ha).toNat : Int)) :
    Calls Try.prog 21 #[.string s, .int .i64 a] w fun e w' => e = .returned (.tuple #[.int .i64 0, .int .i64 0, .int .i64 5]) ∧ w' = w := by
  have hbd : ((s[a]'ha).toNat : Int) ≤ 255 := by have := (s[a]'ha).toNat_lt; omega
  have hlt : (a : Int) < s.size := by omega
  go_enter Try.func21, Try.ntmps21
  go_wp2
  go_ret3
  exact ⟨rfl, rfl⟩
set_option maxHeartbeats 400000 in
theorem rn_e6b (s : ByteArray) (a : Nat) (w : World) (hs : s.size ≤ 140737488355328) (ha : a < s.size) (h8 : ((s[a]'ha).toNat : Int) ≤ 8) (hl : ((s[a]'ha).toNat : Int) ≤ (s.size : Int) - a - 1) (h1 : a + 1 < s.size) (h0 : 0 < ((s[a]'ha).toNat : Int)) (hz : ((((s[a + 1]'h1).toNat : Nat) : Int) == 0) = true) :
    Calls Try.prog 21 #[.string s, .int .i64 a] w fun e w' => e = .returned (.tuple #[.int .i64 0, .int .i64 0, .int .i64 6]) ∧ w' = w := by
  have hbd : ((s[a]'ha).toNat : Int) ≤ 255 := by have := (s[a]'ha).toNat_lt; omega
  have hlt : (a : Int) < s.size := by omega
  have hbd1 : ((s[a + 1]'h1).toNat : Int) ≤ 255 := by have := (s[a + 1]'h1).toNat_lt; omega
  have hlt1 : (a : Int) + 1 < s.size := by omega
  go_enter Try.func21, Try.ntmps21
  go_wp2
  go_ret3
  exact ⟨rfl, rfl⟩
set_option maxHeartbeats 400000 in
theorem rn_e6c (s : ByteArray) (a : Nat) (w : World) (hs : s.size ≤ 140737488355328) (ha : a < s.size) (h8 : (((s[a]'ha).toNat : Int) == 8) = true) (h80 : 0 < ((s[a]'ha).toNat : Int)) (h88 : ((s[a]'ha).toNat : Int) ≤ 8) (hl : ((s[a]'ha).toNat : Int) ≤ (s.size : Int) - a - 1) (h1 : a + 1 < s.size) (hz : ((((s[a + 1]'h1).toNat : Nat) : Int) == 0) = false) (hb : 127 < ((s[a + 1]'h1).toNat : Int)) :
    Calls Try.prog 21 #[.string s, .int .i64 a] w fun e w' => e = .returned (.tuple #[.int .i64 0, .int .i64 0, .int .i64 6]) ∧ w' = w := by
  have hbd : ((s[a]'ha).toNat : Int) ≤ 255 := by have := (s[a]'ha).toNat_lt; omega
  have hlt : (a : Int) < s.size := by omega
  have hbd1 : ((s[a + 1]'h1).toNat : Int) ≤ 255 := by have := (s[a + 1]'h1).toNat_lt; omega
  have hlt1 : (a : Int) + 1 < s.size := by omega
  go_enter Try.func21, Try.ntmps21
  go_wp2
  go_ret3
  exact ⟨rfl, rfl⟩
theorem rn_or {N b : Nat} (hN : N ≤ 36028797018963967) (hb : b ≤ 255) : bits .or .i64 ((N : Int) * 256) (b : Int) = ((N * 256 + b : Nat) : Int) := by
  rw [bits_join .i64 63 (by decide) (fun n h0 h1 => by rw [IntKind.wrap_i64]; omega) 8 _ _ (by omega) (by omega) (by omega) (by omega) (by omega) (by omega)]
  omega
theorem rn_bd {l : List UInt8} {k j : Nat} (h8 : k ≤ 8) (hc : k ≤ 7 ∨ (l.getD 0 0).toNat ≤ 127) (hj : j < k) (hl : k ≤ l.length) : beN (l.take j) ≤ 36028797018963967 := by
  have h1 := beN_lt (l.take j)
  rw [List.length_take, Nat.min_eq_left (by omega)] at h1
  by_cases h6 : j ≤ 6
  · have := Nat.pow_le_pow_right (by decide : 0 < 256) h6
    omega
  · obtain rfl : j = 7 := by omega
    cases l with
    | nil => simp at hl; omega
    | cons b l =>
      have hb : b.toNat ≤ 127 := by rcases hc with h | h; omega; simpa using h
      rw [List.take_succ_cons, beN_cons]
      have h2 := beN_lt (l.take 6)
      simp only [List.length_cons] at hl
      rw [List.length_take, Nat.min_eq_left (by omega)] at h2 ⊢
      have e : (256 : Nat) ^ 6 = 281474976710656 := by decide
      rw [e] at h2 ⊢
      omega
theorem rn_next {s : ByteArray} {a j N : Nat} (h : a + 1 + j < s.size) (hN : N = beN ((s.data.toList.drop (a + 1)).take j)) : N * 256 + (s[a + 1 + j]'h).toNat = beN ((s.data.toList.drop (a + 1)).take (j + 1)) := by
  have h' : j < (s.data.toList.drop (a + 1)).length := by rw [List.length_drop]; have : s.data.toList.length = s.size := rfl; omega
  rw [List.take_succ_eq_append_getElem h', beN_snoc, ← hN, List.getElem_drop]
  rfl
set_option maxHeartbeats 400000 in
set_option maxRecDepth 4000 in
theorem rn_ok7 (s : ByteArray) (a : Nat) (w : World) (hs : s.size ≤ 140737488355328) (ha : a < s.size) (k : Nat) (hk : ((s[a]'ha).toNat : Int) = k) (h8 : k ≤ 7) (hl : k ≤ s.size - a - 1) (h1 : a + 1 < s.size) (h0 : 0 < k) (hz : ((((s[a + 1]'h1).toNat : Nat) : Int) == 0) = false) :
    Calls Try.prog 21 #[.string s, .int .i64 a] w fun e w' => e = .returned (.tuple #[.int .i64 (beN ((s.data.toList.drop (a + 1)).take k)), .int .i64 (a + 1 + k : Nat), .int .i64 0]) ∧ w' = w := by
  have hk8 : ((k : Int) == 8) = false := by simp; omega
  have h80 : k ≤ 8 := by omega
  have hcc : Hid (k ≤ 7 ∨ ((s.data.toList.drop (a + 1)).getD 0 0).toNat ≤ 127) := .inl h8
  have hbd : ((s[a]'ha).toNat : Int) ≤ 255 := by have := (s[a]'ha).toNat_lt; omega
  have hlt : (a : Int) < s.size := by omega
  have hbd1 : ((s[a + 1]'h1).toNat : Int) ≤ 255 := by have := (s[a + 1]'h1).toNat_lt; omega
  have hlt1 : (a : Int) + 1 < s.size := by omega
  go_enter Try.func21, Try.ntmps21
  go_wp2
  go_loop [8, 59] (fun n i => ∃ j N : Nat, j ≤ k ∧ i = .int .i64 j ∧ n = .int .i64 N ∧ (j < k → N ≤ 36028797018963967) ∧ Hid (N = beN ((s.data.toList.drop (a + 1)).take j))) (fun _ i => k - (intOf i).toNat)
  case atStart => exact ⟨0, 0, by omega, rfl, rfl, by omega, rfl⟩
  case round =>
    obtain ⟨j, N, hj, rfl, rfl, hN, HN⟩ := hrel
    by_cases hlt : j < k
    · have hN2 := hN hlt
      clear hN
      have hj2 : a + 1 + j < s.size := by omega
      have hbj : ((s[a + 1 + j]'hj2).toNat : Int) ≤ 255 := by have := (s[a + 1 + j]'hj2).toNat_lt; omega
      go_wp2
      go_round
      case rel => exact ⟨j + 1, N * 256 + (s[a + 1 + j]'hj2).toNat, by omega, by go_num, by rw [rn_or (b := (s[a + 1 + j]'hj2).toNat) hN2 (by omega)], fun h => by rw [rn_next hj2 HN.out]; exact rn_bd h80 hcc.out h (by rw [List.length_drop]; have : s.data.toList.length = s.size := rfl; omega), rn_next hj2 HN.out⟩
      case measure => simp [intOf]; omega
    · obtain rfl : j = k := by omega
      clear hN
      go_wp2
      go_ret3
      rw [HN.out]
      exact ⟨by go_num, rfl⟩
set_option maxHeartbeats 400000 in
set_option maxRecDepth 4000 in
theorem rn_ok8 (s : ByteArray) (a : Nat) (w : World) (hs : s.size ≤ 140737488355328) (ha : a < s.size) (k : Nat) (hk : ((s[a]'ha).toNat : Int) = k) (h8 : k = 8) (hl : k ≤ s.size - a - 1) (h1 : a + 1 < s.size) (h0 : 0 < k) (hz : ((((s[a + 1]'h1).toNat : Nat) : Int) == 0) = false) (hb : ((s[a + 1]'h1).toNat : Int) ≤ 127) :
    Calls Try.prog 21 #[.string s, .int .i64 a] w fun e w' => e = .returned (.tuple #[.int .i64 (beN ((s.data.toList.drop (a + 1)).take k)), .int .i64 (a + 1 + k : Nat), .int .i64 0]) ∧ w' = w := by
  have hk8 : ((k : Int) == 8) = true := by simp; omega
  have h80 : k ≤ 8 := by omega
  have hcc : Hid (k ≤ 7 ∨ ((s.data.toList.drop (a + 1)).getD 0 0).toNat ≤ 127) := .inr (by rw [byte_at h1]; simp; omega)
  clear h8
  have hbd : ((s[a]'ha).toNat : Int) ≤ 255 := by have := (s[a]'ha).toNat_lt; omega
  have hlt : (a : Int) < s.size := by omega
  have hbd1 : ((s[a + 1]'h1).toNat : Int) ≤ 255 := by have := (s[a + 1]'h1).toNat_lt; omega
  have hlt1 : (a : Int) + 1 < s.size := by omega
  go_enter Try.func21, Try.ntmps21
  go_wp2
  go_loop [8, 59] (fun n i => ∃ j N : Nat, j ≤ k ∧ i = .int .i64 j ∧ n = .int .i64 N ∧ (j < k → N ≤ 36028797018963967) ∧ Hid (N = beN ((s.data.toList.drop (a + 1)).take j))) (fun _ i => k - (intOf i).toNat)
  case atStart => exact ⟨0, 0, by omega, rfl, rfl, by omega, rfl⟩
  case round =>
    obtain ⟨j, N, hj, rfl, rfl, hN, HN⟩ := hrel
    by_cases hlt : j < k
    · have hN2 := hN hlt
      clear hN
      have hj2 : a + 1 + j < s.size := by omega
      have hbj : ((s[a + 1 + j]'hj2).toNat : Int) ≤ 255 := by have := (s[a + 1 + j]'hj2).toNat_lt; omega
      go_wp2
      go_round
      case rel => exact ⟨j + 1, N * 256 + (s[a + 1 + j]'hj2).toNat, by omega, by go_num, by rw [rn_or (b := (s[a + 1 + j]'hj2).toNat) hN2 (by omega)], fun h => by rw [rn_next hj2 HN.out]; exact rn_bd h80 hcc.out h (by rw [List.length_drop]; have : s.data.toList.length = s.size := rfl; omega), rn_next hj2 HN.out⟩
      case measure => simp [intOf]; omega
    · obtain rfl : j = k := by omega
      clear hN
      go_wp2
      go_ret3
      rw [HN.out]
      exact ⟨by go_num, rfl⟩
theorem rn_zero (s : ByteArray) (a : Nat) (w : World) (hs : s.size ≤ 140737488355328) (ha : a < s.size) (hk : ((s[a]'ha).toNat : Int) = 0) :
    Calls Try.prog 21 #[.string s, .int .i64 a] w fun e w' => e = .returned (.tuple #[.int .i64 0, .int .i64 (a + 1 : Nat), .int .i64 0]) ∧ w' = w := by
  have hlt : (a : Int) < s.size := by omega
  go_enter Try.func21, Try.ntmps21
  go_wp2
  go_loop [8, 59] (fun n i => n = .int .i64 0 ∧ i = .int .i64 0) (fun _ _ => 0)
  case atStart => exact ⟨rfl, rfl⟩
  case round =>
    obtain ⟨rfl, rfl⟩ := hrel
    go_wp2
    go_ret3
    exact ⟨by go_num, rfl⟩
def rnV (r : Except Int (Nat × Nat)) (a : Nat) : Value :=
  match r with
  | .error e => .tuple #[.int .i64 0, .int .i64 0, .int .i64 e]
  | .ok (n, c) => .tuple #[.int .i64 n, .int .i64 (a + c : Nat), .int .i64 0]
theorem rn_any (s : ByteArray) (a : Nat) (w : World) (hs : s.size ≤ 140737488355328) (ha : a ≤ s.size) :
    Calls Try.prog 21 #[.string s, .int .i64 a] w fun e w' => e = .returned (rnV (rdN (s.data.toList.drop a)) a) ∧ w' = w := by
  have hL : s.data.toList.length = s.size := rfl
  by_cases he : a = s.size
  · subst he
    rw [List.drop_of_length_le (by omega)]
    exact rn_end s w hs
  · have ha' : a < s.size := by omega
    have hbd := (s[a]'ha').toNat_lt
    rw [byte_at ha']
    simp only [rdN]
    have hlen : (s.data.toList.drop (a + 1)).length = s.size - a - 1 := by rw [List.length_drop]; omega
    by_cases h8 : 8 < (s[a]'ha').toNat
    · rw [if_pos h8]; exact rn_e6a s a w hs ha' (by omega)
    · rw [if_neg h8, hlen]
      by_cases hl : s.size - a - 1 < (s[a]'ha').toNat
      · rw [if_pos hl]; exact rn_e5 s a w hs ha' (by omega) (by omega)
      · rw [if_neg hl]
        by_cases h0 : (s[a]'ha').toNat = 0
        · rw [if_neg (by omega), h0]
          exact rn_zero s a w hs ha' (by omega)
        · have h1 : a + 1 < s.size := by omega
          have hg : (s.data.toList.drop (a + 1)).getD 0 0 = s[a + 1]'h1 := by rw [byte_at h1]; rfl
          rw [hg]
          by_cases hz : (s[a + 1]'h1).toNat = 0
          · rw [if_pos ⟨by omega, .inl hz⟩]
            exact rn_e6b s a w hs ha' (by omega) (by omega) h1 (by omega) (by simp [hz])
          · have hz' : ((((s[a + 1]'h1).toNat : Nat) : Int) == 0) = false := by simp; omega
            by_cases h88 : (s[a]'ha').toNat = 8
            · by_cases hb : 127 < (s[a + 1]'h1).toNat
              · rw [if_pos ⟨by omega, .inr ⟨h88, hb⟩⟩]
                exact rn_e6c s a w hs ha' (by simp [h88]) (by omega) (by omega) (by omega) h1 hz' (by omega)
              · rw [if_neg (by omega)]
                have := rn_ok8 s a w hs ha' (s[a]'ha').toNat rfl h88 (by omega) h1 (by omega) hz' (by omega)
                rw [show a + 1 + (s[a]'ha').toNat = a + ((s[a]'ha').toNat + 1) by omega] at this
                exact this
            · rw [if_neg (by omega)]
              have := rn_ok7 s a w hs ha' (s[a]'ha').toNat rfl (by omega) (by omega) h1 (by omega) hz'
              rw [show a + 1 + (s[a]'ha').toNat = a + ((s[a]'ha').toNat + 1) by omega] at this
              exact this
theorem rn_value (s : ByteArray) (a : Nat) (w : World) (hs : s.size ≤ 140737488355328) (ha : a ≤ s.size) {n c : Nat} (h : rdN (s.data.toList.drop a) = .ok (n, c)) :
    Calls Try.prog 21 #[.string s, .int .i64 a] w fun e w' => e = .returned (.tuple #[.int .i64 n, .int .i64 (a + c : Nat), .int .i64 0]) ∧ w' = w := by
  have := rn_any s a w hs ha
  rw [h] at this
  exact this
theorem rn_error (s : ByteArray) (a : Nat) (w : World) (hs : s.size ≤ 140737488355328) (ha : a ≤ s.size) {x : Int} (h : rdN (s.data.toList.drop a) = .error x) :
    Calls Try.prog 21 #[.string s, .int .i64 a] w fun e w' => e = .returned (.tuple #[.int .i64 0, .int .i64 0, .int .i64 x]) ∧ w' = w := by
  have := rn_any s a w hs ha
  rw [h] at this
  exact this
theorem conv_byte (d : Int) (h0 : 0 ≤ d) (h1 : d ≤ 255) (W : World) :
    (convert 34 9 (.slice (some ⟨W.heap.size, 0, none⟩) 1 1)).run Try.prog (W.alloc (.cells #[.int .u8 d] 5)) = .ok (.string (bstr [UInt8.ofNat d.toNat])) (W.alloc (.cells #[.int .u8 d] 5)) := by
  refine conv_new [UInt8.ofNat d.toNat] Try.underlying34 Try.underlying5 Try.underlying9 rfl fun i hi => ?_
  obtain rfl : i = 0 := by omega
  simp [u8s]
  omega
set_option maxHeartbeats 400000 in
set_option maxRecDepth 4000 in
theorem rnumber_neg (n : Int) (w : World) (h : n < 0) :
    Calls Try.prog 26 #[.int .i64 n] w fun e w' => e = .returned (.tuple #[.string ByteArray.empty, .int .i64 2]) ∧ w' = w := by
  go_enter Try.func26, Try.ntmps26
  go_wp2
  go_ret2
  exact ⟨rfl, rfl⟩
theorem rnum_step {n k : Nat} {tl : List UInt8} (hk : 0 < k) (h : numB n = numB k ++ tl) : numB n = numB (k / 256) ++ UInt8.ofNat (k % 256) :: tl := by
  rw [h, numB_pos hk]; simp
set_option maxHeartbeats 400000 in
set_option maxRecDepth 4000 in
theorem rnumber_any (n : Int) (w : World) (h : 0 ≤ n) (h2 : n ≤ 9223372036854775807) :
    Calls Try.prog 26 #[.int .i64 n] w fun e w' => e = .returned (.tuple #[.string (bstr (numEnc n.toNat)), .int .i64 0]) ∧ Below w.heap.size w w' := by
  obtain ⟨n, rfl⟩ := Int.eq_ofNat_of_zero_le h
  go_enter Try.func26, Try.ntmps26
  go_wp2
  go_loopw [0, 4, 5] (fun n0 s c wr => ∃ (k m : Nat) (tl : List UInt8), k ≤ 9223372036854775807 ∧ m ≤ 8 ∧ k < 256 ^ m ∧ Hid (m + tl.length = 8) ∧ Hid (numB n = numB k ++ tl) ∧ n0 = .int .i64 k ∧ s = .string (bstr tl) ∧ c = .int .i64 tl.length ∧ Hid (Below w.heap.size w wr)) (fun n0 _ _ _ => (intOf n0).toNat)
  case atStart => exact ⟨n, 8, [], by omega, by omega, by omega, rfl, show _ = _ by simp, rfl, rfl, rfl, Below.refl _ _⟩
  case round =>
    obtain ⟨k, m, tl, hk, hm, hkm, hml, hn, rfl, rfl, rfl, hB⟩ := hrel
    have htl : tl.length ≤ 8 := by have := hml.out; omega
    by_cases hlt : 0 < k
    · have hcv := fun W => conv_byte ((k : Int) % 256) (by omega) (by omega) W
      have hsz : (bstr [UInt8.ofNat (k % 256)]).size + (bstr tl).size ≤ 9223372036854775807 := by rw [bstr_size, bstr_size]; simp; omega
      have hm1 : 1 ≤ m := num_m1 hlt hkm
      go_wp2
      go_roundw
      case rel =>
        refine ⟨k / 256, m - 1, UInt8.ofNat (k % 256) :: tl, by omega, by omega, num_lt hm1 hkm, show _ = _ by have := hml.out; simp; omega, rnum_step hlt hn.out, by go_num, ?_, by simp, bw_alloc hB.out _⟩
        rw [bstr_append]
        congr 2
      case measure => simp [intOf]; omega
    · obtain rfl : k = 0 := by omega
      have hcv := fun W => conv_byte (tl.length : Int) (by omega) (by omega) W
      have hsz : (bstr [UInt8.ofNat tl.length]).size + (bstr tl).size ≤ 9223372036854775807 := by rw [bstr_size, bstr_size]; simp; omega
      go_wp2
      go_ret2
      refine ⟨?_, bw_alloc hB.out _⟩
      have h5 := hn.out
      rw [numB_zero, List.nil_append] at h5
      rw [Int.toNat_natCast, numEnc, h5]
      rfl
set_option maxHeartbeats 1000000
set_option maxRecDepth 4000
theorem beN_top {t : List UInt8} {k : Nat} (h8 : k ≤ 8) (hl : k ≤ t.length) (h0 : 0 < k) : (k = 8 ∧ 127 < (t.getD 0 0).toNat) ↔ 9223372036854775807 < beN (t.take k) := by
  have e7 : (256 : Nat) ^ 7 = 72057594037927936 := by decide
  cases t with
  | nil => simp at hl; omega
  | cons b t =>
    obtain ⟨m, rfl⟩ : ∃ m, k = m + 1 := ⟨k - 1, by omega⟩
    simp only [List.length_cons] at hl
    rw [List.take_succ_cons, beN_cons, List.length_take, Nat.min_eq_left (by omega)]
    have h1 := beN_lt (t.take m)
    rw [List.length_take, Nat.min_eq_left (by omega)] at h1
    have hb := b.toNat_lt
    have hg : ((b :: t).getD 0 0) = b := rfl
    rw [hg]
    by_cases h7 : m = 7
    · subst h7
      rw [e7] at h1 ⊢
      omega
    · have h2 : (256 : Nat) ^ m ≤ 256 ^ 6 := Nat.pow_le_pow_right (by decide) (by omega)
      have e6 : (256 : Nat) ^ 6 = 281474976710656 := by decide
      rw [e6] at h2
      have h3 : b.toNat * 256 ^ m ≤ 255 * 256 ^ m := Nat.mul_le_mul_right _ (by omega)
      omega
theorem beN_u64 {t : List UInt8} {j : Nat} (hj : j < 8) : beN (t.take j) ≤ 72057594037927935 := by
  have h1 := beN_lt (t.take j)
  have h2 : (256 : Nat) ^ (t.take j).length ≤ 256 ^ 7 := Nat.pow_le_pow_right (by decide) (by rw [List.length_take]; omega)
  have e7 : (256 : Nat) ^ 7 = 72057594037927936 := by decide
  omega
theorem rrn_end (s : ByteArray) (w : World) (_hs : s.size ≤ 140737488355328) :
    Calls Try.prog 23 #[.string s, .int .i64 s.size] w fun e w' => e = .returned (.tuple #[.int .i64 0, .int .i64 0, .int .i64 5]) ∧ w' = w := by
  go_enter Try.func23, Try.ntmps23
  go_wp2
  go_ret3
  exact ⟨rfl, rfl⟩
theorem rrn_e6a (s : ByteArray) (a : Nat) (w : World) (_hs : s.size ≤ 140737488355328) (ha : a < s.size) (h8 : 8 < ((s[a]'ha).toNat : Int)) :
    Calls Try.prog 23 #[.string s, .int .i64 a] w fun e w' => e = .returned (.tuple #[.int .i64 0, .int .i64 0, .int .i64 6]) ∧ w' = w := by
  have hbd : ((s[a]'ha).toNat : Int) ≤ 255 := by have := (s[a]'ha).toNat_lt; omega
  have hlt : (a : Int) < s.size := by omega
  go_enter Try.func23, Try.ntmps23
  go_wp2
  go_ret3
  exact ⟨rfl, rfl⟩
theorem rrn_e5 (s : ByteArray) (a : Nat) (w : World) (_hs : s.size ≤ 140737488355328) (ha : a < s.size) (h8 : ((s[a]'ha).toNat : Int) ≤ 8) (hl : (s.size : Int) < (a : Int) + 1 + ((s[a]'ha).toNat : Int)) :
    Calls Try.prog 23 #[.string s, .int .i64 a] w fun e w' => e = .returned (.tuple #[.int .i64 0, .int .i64 0, .int .i64 5]) ∧ w' = w := by
  have hbd : ((s[a]'ha).toNat : Int) ≤ 255 := by have := (s[a]'ha).toNat_lt; omega
  have hlt : (a : Int) < s.size := by omega
  go_enter Try.func23, Try.ntmps23
  go_wp2
  go_ret3
  exact ⟨rfl, rfl⟩
theorem rrn_rest (s : ByteArray) (a : Nat) (w : World) (hs : s.size ≤ 140737488355328) (ha : a < s.size) (k : Nat) (hk : ((s[a]'ha).toNat : Int) = k) (h8 : k ≤ 8) (hl : a + 1 + k ≤ s.size) (V : Value)
    (hV : V = if 0 < k ∧ (((s.data.toList.drop (a + 1)).getD 0 0).toNat = 0 ∨ 9223372036854775807 < beN ((s.data.toList.drop (a + 1)).take k)) then .tuple #[.int .i64 0, .int .i64 0, .int .i64 6] else .tuple #[.int .i64 (beN ((s.data.toList.drop (a + 1)).take k)), .int .i64 (a + 1 + k : Nat), .int .i64 0]) :
    Calls Try.prog 23 #[.string s, .int .i64 a] w fun e w' => e = .returned V ∧ w' = w := by
  have HV := Lib.hid hV
  have hg0 : decide ((a : Int) < 0) = false := decide_eq_false (by omega)
  have hg1 : decide ((s.size : Int) < a) = false := decide_eq_false (by omega)
  have hg5 : decide (s.size < a) = false := decide_eq_false (by omega)
  have hg2 : ((a : Int) == s.size) = false := by rw [beq_eq_false_iff_ne]; omega
  have hg3 : decide ((8 : Int) < k) = false := decide_eq_false (by omega)
  have hg4 : decide ((s.size : Int) < (a : Int) + 1 + k) = false := decide_eq_false (by omega)
  have hbd : ((s[a]'ha).toNat : Int) ≤ 255 := by have := (s[a]'ha).toNat_lt; omega
  have hlt : (a : Int) < s.size := by omega
  clear hV
  go_enter Try.func23, Try.ntmps23
  go_wp2
  go_loopw [8, 9] (fun n i wr => ∃ j N : Nat, j ≤ k ∧ i = .int .i64 (a + 1 + j : Nat) ∧ n = .int .u64 N ∧ N ≤ 18446744073709551615 ∧ (j < k → N ≤ 72057594037927935) ∧ Hid (N = beN ((s.data.toList.drop (a + 1)).take j)) ∧ wr = w) (fun _ i _ => a + 1 + k - (intOf i).toNat)
  case atStart => exact ⟨0, 0, by omega, by go_num, rfl, by omega, by omega, show _ = _ from rfl, rfl⟩
  case round =>
    obtain ⟨j, N, hj, rfl, rfl, hN, hN2, HN, rfl⟩ := hrel
    by_cases hltj : j < k
    · have hN3 := hN2 hltj
      clear hN2
      have hj2 : a + 1 + j < s.size := by omega
      have hbj : ((s[a + 1 + j]'hj2).toNat : Int) ≤ 255 := by have := (s[a + 1 + j]'hj2).toNat_lt; omega
      go_wp2_with fail
      go_roundw
      case rel => exact ⟨j + 1, N * 256 + (s[a + 1 + j]'hj2).toNat, by omega, by go_num, by go_num, by omega, fun h => by rw [rn_next hj2 HN.out]; exact beN_u64 (by omega), rn_next hj2 HN.out, trivial⟩
      case measure => simp [intOf]; omega
    · obtain rfl : j = k := by omega
      clear hN2
      by_cases h0 : 0 < j
      · have h1 : a + 1 < s.size := by omega
        have hg : (s.data.toList.drop (a + 1)).getD 0 0 = s[a + 1]'h1 := by rw [byte_at h1]; rfl
        have hlt1 : (a : Int) + 1 < s.size := by omega
        have hbd1 : ((s[a + 1]'h1).toNat : Int) ≤ 255 := by have := (s[a + 1]'h1).toNat_lt; omega
        have hd0 : decide ((0 : Int) < j) = true := decide_eq_true (by omega)
        by_cases hz : (s[a + 1]'h1).toNat = 0
        · have hz' : ((((s[a + 1]'h1).toNat : Nat) : Int) == 0) = true := by simp [hz]
          have HF : Hid (V = .tuple #[.int .i64 0, .int .i64 0, .int .i64 6]) := show _ = _ by rw [HV.out, hg, if_pos ⟨h0, .inl hz⟩]
          clear hg hz
          go_wp2
          go_ret3
          exact ⟨by rw [HF.out]; rfl, rfl⟩
        · have hz' : ((((s[a + 1]'h1).toNat : Nat) : Int) == 0) = false := by simp; omega
          by_cases hb : 9223372036854775807 < N
          · have hb' : decide ((9223372036854775807 : Int) < N) = true := decide_eq_true (by omega)
            have HF : Hid (V = .tuple #[.int .i64 0, .int .i64 0, .int .i64 6]) := show _ = _ by rw [HV.out, hg, ← HN.out, if_pos ⟨h0, .inr hb⟩]
            clear hg hz
            go_wp2
            go_ret3
            exact ⟨by rw [HF.out]; rfl, rfl⟩
          · have hb' : decide ((9223372036854775807 : Int) < N) = false := decide_eq_false (by omega)
            have HF : Hid (V = .tuple #[.int .i64 N, .int .i64 (a + 1 + j : Nat), .int .i64 0]) := show _ = _ by rw [HV.out, hg, ← HN.out, if_neg (by omega)]
            clear hg hz
            go_wp2
            go_ret3
            exact ⟨by rw [HF.out]; go_num, rfl⟩
      · obtain rfl : j = 0 := by omega
        obtain rfl : N = 0 := HN.out
        have HF : Hid (V = .tuple #[.int .i64 0, .int .i64 (a + 1 : Nat), .int .i64 0]) := show _ = _ by rw [HV.out, if_neg (by omega)]; rfl
        go_wp2
        go_ret3
        exact ⟨by rw [HF.out]; go_num, rfl⟩
theorem rrn_any (s : ByteArray) (a : Nat) (w : World) (hs : s.size ≤ 140737488355328) (ha : a ≤ s.size) :
    Calls Try.prog 23 #[.string s, .int .i64 a] w fun e w' => e = .returned (rnV (rdN (s.data.toList.drop a)) a) ∧ w' = w := by
  have hL : s.data.toList.length = s.size := rfl
  by_cases he : a = s.size
  · subst he
    rw [List.drop_of_length_le (by omega)]
    exact rrn_end s w hs
  · have ha' : a < s.size := by omega
    have hbd := (s[a]'ha').toNat_lt
    rw [byte_at ha']
    simp only [rdN]
    have hlen : (s.data.toList.drop (a + 1)).length = s.size - a - 1 := by rw [List.length_drop]; omega
    by_cases h8 : 8 < (s[a]'ha').toNat
    · rw [if_pos h8]; exact rrn_e6a s a w hs ha' (by omega)
    · rw [if_neg h8]
      by_cases hl : s.size - a - 1 < (s[a]'ha').toNat
      · rw [if_pos (by rw [hlen]; exact hl)]; exact rrn_e5 s a w hs ha' (by omega) (by omega)
      · rw [if_neg (by rw [hlen]; exact hl)]
        refine rrn_rest s a w hs ha' (s[a]'ha').toNat rfl (by omega) (by omega) _ ?_
        by_cases h0 : 0 < (s[a]'ha').toNat
        · have ht := beN_top (t := s.data.toList.drop (a + 1)) (k := (s[a]'ha').toNat) (by omega) (by rw [hlen]; omega) h0
          by_cases hc : ((s.data.toList.drop (a + 1)).getD 0 0).toNat = 0 ∨ 9223372036854775807 < beN ((s.data.toList.drop (a + 1)).take (s[a]'ha').toNat)
          · rw [if_pos ⟨h0, hc.imp id ht.2⟩, if_pos ⟨h0, hc⟩]
            rfl
          · rw [if_neg (fun h => hc (h.2.imp id ht.1)), if_neg (fun h => hc h.2)]
            show rnV (.ok _) a = _
            rw [rnV, show a + ((s[a]'ha').toNat + 1) = a + 1 + (s[a]'ha').toNat by omega]
        · rw [if_neg (fun h => h0 h.1), if_neg (fun h => h0 h.1)]
          show rnV (.ok _) a = _
          rw [rnV, show a + ((s[a]'ha').toNat + 1) = a + 1 + (s[a]'ha').toNat by omega]
theorem rrn_value (s : ByteArray) (a : Nat) (w : World) (hs : s.size ≤ 140737488355328) (ha : a ≤ s.size) {n c : Nat} (h : rdN (s.data.toList.drop a) = .ok (n, c)) :
    Calls Try.prog 23 #[.string s, .int .i64 a] w fun e w' => e = .returned (.tuple #[.int .i64 n, .int .i64 (a + c : Nat), .int .i64 0]) ∧ w' = w := by
  have := rrn_any s a w hs ha
  rw [h] at this
  exact this
theorem rrn_error (s : ByteArray) (a : Nat) (w : World) (hs : s.size ≤ 140737488355328) (ha : a ≤ s.size) {x : Int} (h : rdN (s.data.toList.drop a) = .error x) :
    Calls Try.prog 23 #[.string s, .int .i64 a] w fun e w' => e = .returned (.tuple #[.int .i64 0, .int .i64 0, .int .i64 x]) ∧ w' = w := by
  have := rrn_any s a w hs ha
  rw [h] at this
  exact this
end Go.Proofs.Ytbelofikknfoaaa
