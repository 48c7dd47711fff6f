/- octets.ReadNumber, ReadText, ReadList: what the calls do. -/
import Derived.Test.YtckfdmkjeocadaaDoorList
import Derived.Test.YtckfdmkjeocadaaDoorRnPure
namespace Go.Proofs.YtckfdmkjeocadaaDoor
open Go.RowKit
theorem byte_at {s : ByteArray} {a : Nat} (h : a < s.size) : s.data.toList.drop a = (s[a]'h) :: s.data.toList.drop (a + 1) := by
  have h' : a < s.data.toList.length := h
  rw [List.drop_eq_getElem_cons h']
  rfl
set_option maxHeartbeats 400000 in
theorem rn_end (s : ByteArray) (w : World) (_hs : s.size ≤ 140737488355328) :
    Calls Tryd.prog 59 #[.string s, .int .i64 s.size] w fun e w' => e = .returned (.tuple #[.int .i64 0, .int .i64 0, .int .i64 5]) ∧ w' = w := by
  go_enter Tryd.func59, Tryd.ntmps59
  go_wp2
  go_ret3
  exact ⟨rfl, rfl⟩
set_option maxHeartbeats 400000 in
theorem rn_e6a (s : ByteArray) (a : Nat) (w : World) (_hs : s.size ≤ 140737488355328) (ha : a < s.size) (h8 : 8 < ((s[a]'ha).toNat : Int)) :
    Calls Tryd.prog 59 #[.string s, .int .i64 a] w fun e w' => e = .returned (.tuple #[.int .i64 0, .int .i64 0, .int .i64 6]) ∧ w' = w := by
  have hbd : ((s[a]'ha).toNat : Int) ≤ 255 := by have := (s[a]'ha).toNat_lt; omega
  have hlt : (a : Int) < s.size := by omega
  go_enter Tryd.func59, Tryd.ntmps59
  go_wp2
  go_ret3
  exact ⟨rfl, rfl⟩
set_option maxHeartbeats 400000 in
theorem rn_e5 (s : ByteArray) (a : Nat) (w : World) (_hs : s.size ≤ 140737488355328) (ha : a < s.size) (h8 : ((s[a]'ha).toNat : Int) ≤ 8) (hl : (s.size : Int) - a - 1 < ((s[a]'ha).toNat : Int)) :
    Calls Tryd.prog 59 #[.string s, .int .i64 a] w fun e w' => e = .returned (.tuple #[.int .i64 0, .int .i64 0, .int .i64 5]) ∧ w' = w := by
  have hbd : ((s[a]'ha).toNat : Int) ≤ 255 := by have := (s[a]'ha).toNat_lt; omega
  have hlt : (a : Int) < s.size := by omega
  go_enter Tryd.func59, Tryd.ntmps59
  go_wp2
  go_ret3
  exact ⟨rfl, rfl⟩
set_option maxHeartbeats 400000 in
theorem rn_e6b (s : ByteArray) (a : Nat) (w : World) (hs : s.size ≤ 140737488355328) (ha : a < s.size) (h8 : ((s[a]'ha).toNat : Int) ≤ 8) (hl : ((s[a]'ha).toNat : Int) ≤ (s.size : Int) - a - 1) (h1 : a + 1 < s.size) (h0 : 0 < ((s[a]'ha).toNat : Int)) (hz : ((((s[a + 1]'h1).toNat : Nat) : Int) == 0) = true) :
    Calls Tryd.prog 59 #[.string s, .int .i64 a] w fun e w' => e = .returned (.tuple #[.int .i64 0, .int .i64 0, .int .i64 6]) ∧ w' = w := by
  have hbd : ((s[a]'ha).toNat : Int) ≤ 255 := by have := (s[a]'ha).toNat_lt; omega
  have hlt : (a : Int) < s.size := by omega
  have hbd1 : ((s[a + 1]'h1).toNat : Int) ≤ 255 := by have := (s[a + 1]'h1).toNat_lt; omega
  have hlt1 : (a : Int) + 1 < s.size := by omega
  go_enter Tryd.func59, Tryd.ntmps59
  go_wp2
  go_ret3
  exact ⟨rfl, rfl⟩
set_option maxHeartbeats 400000 in
theorem rn_e6c (s : ByteArray) (a : Nat) (w : World) (hs : s.size ≤ 140737488355328) (ha : a < s.size) (h8 : (((s[a]'ha).toNat : Int) == 8) = true) (h80 : 0 < ((s[a]'ha).toNat : Int)) (h88 : ((s[a]'ha).toNat : Int) ≤ 8) (hl : ((s[a]'ha).toNat : Int) ≤ (s.size : Int) - a - 1) (h1 : a + 1 < s.size) (hz : ((((s[a + 1]'h1).toNat : Nat) : Int) == 0) = false) (hb : 127 < ((s[a + 1]'h1).toNat : Int)) :
    Calls Tryd.prog 59 #[.string s, .int .i64 a] w fun e w' => e = .returned (.tuple #[.int .i64 0, .int .i64 0, .int .i64 6]) ∧ w' = w := by
  have hbd : ((s[a]'ha).toNat : Int) ≤ 255 := by have := (s[a]'ha).toNat_lt; omega
  have hlt : (a : Int) < s.size := by omega
  have hbd1 : ((s[a + 1]'h1).toNat : Int) ≤ 255 := by have := (s[a + 1]'h1).toNat_lt; omega
  have hlt1 : (a : Int) + 1 < s.size := by omega
  go_enter Tryd.func59, Tryd.ntmps59
  go_wp2
  go_ret3
  exact ⟨rfl, rfl⟩
theorem rn_or {N b : Nat} (hN : N ≤ 36028797018963967) (hb : b ≤ 255) : bits .or .i64 ((N : Int) * 256) (b : Int) = ((N * 256 + b : Nat) : Int) := by
  rw [bits_join .i64 63 (by decide) (fun n h0 h1 => by rw [IntKind.wrap_i64]; omega) 8 _ _ (by omega) (by omega) (by omega) (by omega) (by omega) (by omega)]
  omega
theorem rn_bd {l : List UInt8} {k j : Nat} (h8 : k ≤ 8) (hc : k ≤ 7 ∨ (l.getD 0 0).toNat ≤ 127) (hj : j < k) (hl : k ≤ l.length) : beN (l.take j) ≤ 36028797018963967 := by
  have h1 := beN_lt (l.take j)
  rw [List.length_take, Nat.min_eq_left (by omega)] at h1
  by_cases h6 : j ≤ 6
  · have := Nat.pow_le_pow_right (by decide : 0 < 256) h6
    omega
  · obtain rfl : j = 7 := by omega
    cases l with
    | nil => simp at hl; omega
    | cons b l =>
      have hb : b.toNat ≤ 127 := by rcases hc with h | h; omega; simpa using h
      rw [List.take_succ_cons, beN_cons]
      have h2 := beN_lt (l.take 6)
      simp only [List.length_cons] at hl
      rw [List.length_take, Nat.min_eq_left (by omega)] at h2 ⊢
      have e : (256 : Nat) ^ 6 = 281474976710656 := by decide
      rw [e] at h2 ⊢
      omega
theorem rn_next {s : ByteArray} {a j N : Nat} (h : a + 1 + j < s.size) (hN : N = beN ((s.data.toList.drop (a + 1)).take j)) : N * 256 + (s[a + 1 + j]'h).toNat = beN ((s.data.toList.drop (a + 1)).take (j + 1)) := by
  have h' : j < (s.data.toList.drop (a + 1)).length := by rw [List.length_drop]; have : s.data.toList.length = s.size := rfl; omega
  rw [List.take_succ_eq_append_getElem h', beN_snoc, ← hN, List.getElem_drop]
  rfl
set_option maxHeartbeats 400000 in
set_option maxRecDepth 4000 in
theorem rn_ok7 (s : ByteArray) (a : Nat) (w : World) (hs : s.size ≤ 140737488355328) (ha : a < s.size) (k : Nat) (hk : ((s[a]'ha).toNat : Int) = k) (h8 : k ≤ 7) (hl : k ≤ s.size - a - 1) (h1 : a + 1 < s.size) (h0 : 0 < k) (hz : ((((s[a + 1]'h1).toNat : Nat) : Int) == 0) = false) :
    Calls Tryd.prog 59 #[.string s, .int .i64 a] w fun e w' => e = .returned (.tuple #[.int .i64 (beN ((s.data.toList.drop (a + 1)).take k)), .int .i64 (a + 1 + k : Nat), .int .i64 0]) ∧ w' = w := by
  have hk8 : ((k : Int) == 8) = false := by simp; omega
  have h80 : k ≤ 8 := by omega
  have hcc : Hid (k ≤ 7 ∨ ((s.data.toList.drop (a + 1)).getD 0 0).toNat ≤ 127) := .inl h8
  have hbd : ((s[a]'ha).toNat : Int) ≤ 255 := by have := (s[a]'ha).toNat_lt; omega
  have hlt : (a : Int) < s.size := by omega
  have hbd1 : ((s[a + 1]'h1).toNat : Int) ≤ 255 := by have := (s[a + 1]'h1).toNat_lt; omega
  have hlt1 : (a : Int) + 1 < s.size := by omega
  go_enter Tryd.func59, Tryd.ntmps59
  go_wp2
  go_loop [8, 59] (fun n i => ∃ j N : Nat, j ≤ k ∧ i = .int .i64 j ∧ n = .int .i64 N ∧ (j < k → N ≤ 36028797018963967) ∧ Hid (N = beN ((s.data.toList.drop (a + 1)).take j))) (fun _ i => k - (intOf i).toNat)
  case atStart => exact ⟨0, 0, by omega, rfl, rfl, by omega, rfl⟩
  case round =>
    obtain ⟨j, N, hj, rfl, rfl, hN, HN⟩ := hrel
    by_cases hlt : j < k
    · have hN2 := hN hlt
      clear hN
      have hj2 : a + 1 + j < s.size := by omega
      have hbj : ((s[a + 1 + j]'hj2).toNat : Int) ≤ 255 := by have := (s[a + 1 + j]'hj2).toNat_lt; omega
      go_wp2
      go_round
      case rel => exact ⟨j + 1, N * 256 + (s[a + 1 + j]'hj2).toNat, by omega, by go_num, by rw [rn_or (b := (s[a + 1 + j]'hj2).toNat) hN2 (by omega)], fun h => by rw [rn_next hj2 HN.out]; exact rn_bd h80 hcc.out h (by rw [List.length_drop]; have : s.data.toList.length = s.size := rfl; omega), rn_next hj2 HN.out⟩
      case measure => simp [intOf]; omega
    · obtain rfl : j = k := by omega
      clear hN
      go_wp2
      go_ret3
      rw [HN.out]
      exact ⟨by go_num, rfl⟩
set_option maxHeartbeats 400000 in
set_option maxRecDepth 4000 in
theorem rn_ok8 (s : ByteArray) (a : Nat) (w : World) (hs : s.size ≤ 140737488355328) (ha : a < s.size) (k : Nat) (hk : ((s[a]'ha).toNat : Int) = k) (h8 : k = 8) (hl : k ≤ s.size - a - 1) (h1 : a + 1 < s.size) (h0 : 0 < k) (hz : ((((s[a + 1]'h1).toNat : Nat) : Int) == 0) = false) (hb : ((s[a + 1]'h1).toNat : Int) ≤ 127) :
    Calls Tryd.prog 59 #[.string s, .int .i64 a] w fun e w' => e = .returned (.tuple #[.int .i64 (beN ((s.data.toList.drop (a + 1)).take k)), .int .i64 (a + 1 + k : Nat), .int .i64 0]) ∧ w' = w := by
  have hk8 : ((k : Int) == 8) = true := by simp; omega
  have h80 : k ≤ 8 := by omega
  have hcc : Hid (k ≤ 7 ∨ ((s.data.toList.drop (a + 1)).getD 0 0).toNat ≤ 127) := .inr (by rw [byte_at h1]; simp; omega)
  clear h8
  have hbd : ((s[a]'ha).toNat : Int) ≤ 255 := by have := (s[a]'ha).toNat_lt; omega
  have hlt : (a : Int) < s.size := by omega
  have hbd1 : ((s[a + 1]'h1).toNat : Int) ≤ 255 := by have := (s[a + 1]'h1).toNat_lt; omega
  have hlt1 : (a : Int) + 1 < s.size := by omega
  go_enter Tryd.func59, Tryd.ntmps59
  go_wp2
  go_loop [8, 59] (fun n i => ∃ j N : Nat, j ≤ k ∧ i = .int .i64 j ∧ n = .int .i64 N ∧ (j < k → N ≤ 36028797018963967) ∧ Hid (N = beN ((s.data.toList.drop (a + 1)).take j))) (fun _ i => k - (intOf i).toNat)
  case atStart => exact ⟨0, 0, by omega, rfl, rfl, by omega, rfl⟩
  case round =>
    obtain ⟨j, N, hj, rfl, rfl, hN, HN⟩ := hrel
    by_cases hlt : j < k
    · have hN2 := hN hlt
      clear hN
      have hj2 : a + 1 + j < s.size := by omega
      have hbj : ((s[a + 1 + j]'hj2).toNat : Int) ≤ 255 := by have := (s[a + 1 + j]'hj2).toNat_lt; omega
      go_wp2
      go_round
      case rel => exact ⟨j + 1, N * 256 + (s[a + 1 + j]'hj2).toNat, by omega, by go_num, by rw [rn_or (b := (s[a + 1 + j]'hj2).toNat) hN2 (by omega)], fun h => by rw [rn_next hj2 HN.out]; exact rn_bd h80 hcc.out h (by rw [List.length_drop]; have : s.data.toList.length = s.size := rfl; omega), rn_next hj2 HN.out⟩
      case measure => simp [intOf]; omega
    · obtain rfl : j = k := by omega
      clear hN
      go_wp2
      go_ret3
      rw [HN.out]
      exact ⟨by go_num, rfl⟩
theorem rn_zero (s : ByteArray) (a : Nat) (w : World) (hs : s.size ≤ 140737488355328) (ha : a < s.size) (hk : ((s[a]'ha).toNat : Int) = 0) :
    Calls Tryd.prog 59 #[.string s, .int .i64 a] w fun e w' => e = .returned (.tuple #[.int .i64 0, .int .i64 (a + 1 : Nat), .int .i64 0]) ∧ w' = w := by
  have hlt : (a : Int) < s.size := by omega
  go_enter Tryd.func59, Tryd.ntmps59
  go_wp2
  go_loop [8, 59] (fun n i => n = .int .i64 0 ∧ i = .int .i64 0) (fun _ _ => 0)
  case atStart => exact ⟨rfl, rfl⟩
  case round =>
    obtain ⟨rfl, rfl⟩ := hrel
    go_wp2
    go_ret3
    exact ⟨by go_num, rfl⟩
def rnV (r : Except Int (Nat × Nat)) (a : Nat) : Value :=
  match r with
  | .error e => .tuple #[.int .i64 0, .int .i64 0, .int .i64 e]
  | .ok (n, c) => .tuple #[.int .i64 n, .int .i64 (a + c : Nat), .int .i64 0]
theorem rn_any (s : ByteArray) (a : Nat) (w : World) (hs : s.size ≤ 140737488355328) (ha : a ≤ s.size) :
    Calls Tryd.prog 59 #[.string s, .int .i64 a] w fun e w' => e = .returned (rnV (rdN (s.data.toList.drop a)) a) ∧ w' = w := by
  have hL : s.data.toList.length = s.size := rfl
  by_cases he : a = s.size
  · subst he
    rw [List.drop_of_length_le (by omega)]
    exact rn_end s w hs
  · have ha' : a < s.size := by omega
    have hbd := (s[a]'ha').toNat_lt
    rw [byte_at ha']
    simp only [rdN]
    have hlen : (s.data.toList.drop (a + 1)).length = s.size - a - 1 := by rw [List.length_drop]; omega
    by_cases h8 : 8 < (s[a]'ha').toNat
    · rw [if_pos h8]; exact rn_e6a s a w hs ha' (by omega)
    · rw [if_neg h8, hlen]
      by_cases hl : s.size - a - 1 < (s[a]'ha').toNat
      · rw [if_pos hl]; exact rn_e5 s a w hs ha' (by omega) (by omega)
      · rw [if_neg hl]
        by_cases h0 : (s[a]'ha').toNat = 0
        · rw [if_neg (by omega), h0]
          exact rn_zero s a w hs ha' (by omega)
        · have h1 : a + 1 < s.size := by omega
          have hg : (s.data.toList.drop (a + 1)).getD 0 0 = s[a + 1]'h1 := by rw [byte_at h1]; rfl
          rw [hg]
          by_cases hz : (s[a + 1]'h1).toNat = 0
          · rw [if_pos ⟨by omega, .inl hz⟩]
            exact rn_e6b s a w hs ha' (by omega) (by omega) h1 (by omega) (by simp [hz])
          · have hz' : ((((s[a + 1]'h1).toNat : Nat) : Int) == 0) = false := by simp; omega
            by_cases h88 : (s[a]'ha').toNat = 8
            · by_cases hb : 127 < (s[a + 1]'h1).toNat
              · rw [if_pos ⟨by omega, .inr ⟨h88, hb⟩⟩]
                exact rn_e6c s a w hs ha' (by simp [h88]) (by omega) (by omega) (by omega) h1 hz' (by omega)
              · rw [if_neg (by omega)]
                have := rn_ok8 s a w hs ha' (s[a]'ha').toNat rfl h88 (by omega) h1 (by omega) hz' (by omega)
                rw [show a + 1 + (s[a]'ha').toNat = a + ((s[a]'ha').toNat + 1) by omega] at this
                exact this
            · rw [if_neg (by omega)]
              have := rn_ok7 s a w hs ha' (s[a]'ha').toNat rfl (by omega) (by omega) h1 (by omega) hz'
              rw [show a + 1 + (s[a]'ha').toNat = a + ((s[a]'ha').toNat + 1) by omega] at this
              exact this
theorem rn_value (s : ByteArray) (a : Nat) (w : World) (hs : s.size ≤ 140737488355328) (ha : a ≤ s.size) {n c : Nat} (h : rdN (s.data.toList.drop a) = .ok (n, c)) :
    Calls Tryd.prog 59 #[.string s, .int .i64 a] w fun e w' => e = .returned (.tuple #[.int .i64 n, .int .i64 (a + c : Nat), .int .i64 0]) ∧ w' = w := by
  have := rn_any s a w hs ha
  rw [h] at this
  exact this
theorem rn_error (s : ByteArray) (a : Nat) (w : World) (hs : s.size ≤ 140737488355328) (ha : a ≤ s.size) {x : Int} (h : rdN (s.data.toList.drop a) = .error x) :
    Calls Tryd.prog 59 #[.string s, .int .i64 a] w fun e w' => e = .returned (.tuple #[.int .i64 0, .int .i64 0, .int .i64 x]) ∧ w' = w := by
  have := rn_any s a w hs ha
  rw [h] at this
  exact this
end Go.Proofs.YtckfdmkjeocadaaDoor
