/- crate.Sum, cavalcaderef08.Sum: the calls compute CRC-32. -/
import Derived.Test.YtbeooeihedhabaaDoorCrA
import Derived.Test.YtbeooeihedhabaaDoorProg
import Derived.Deep.LoopGhost
import Derived.WalkMore
namespace Go.Proofs.YtbeooeihedhabaaDoor
open Go.RowKit
set_option maxHeartbeats 1000000
set_option maxRecDepth 4000
theorem wrap32 (n : Int) (h0 : 0 ≤ n) (h1 : n < 2 ^ 32) : IntKind.u32.wrap n = n := IntWalk.u32_in n (by omega)
theorem xor32 (a b : Nat) (ha : a < 4294967296) (hb : b < 4294967296) : bits .xor .u32 (a : Int) (b : Int) = ((a ^^^ b : Nat) : Int) := by
  have ha' : a % 2 ^ IntKind.u32.bits = a := Nat.mod_eq_of_lt ha
  have hb' : b % 2 ^ IntKind.u32.bits = b := Nat.mod_eq_of_lt hb
  have h3 := xor_lt32 ha hb
  simp only [bits, BitVec.ofInt_natCast, BitVec.toNat_xor, BitVec.toNat_ofNat, ha', hb']
  exact wrap32 _ (Int.natCast_nonneg _) (by omega)
theorem and32 (a b : Nat) (ha : a < 4294967296) (hb : b < 4294967296) : bits .and .u32 (a : Int) (b : Int) = ((a &&& b : Nat) : Int) := (bits_nat .u32 32 (by decide) wrap32 a b ha hb).1
theorem and_one (a : Nat) : a &&& 1 = a % 2 := Nat.and_one_is_mod a
theorem xor_all (y : Nat) (h : y < 4294967296) : 4294967295 ^^^ y = 4294967295 - y := by
  have h1 : (4294967295 : Nat) = 2 ^ 32 - 1 := by decide
  apply Nat.eq_of_testBit_eq
  intro i
  rw [Nat.testBit_xor, h1, Nat.testBit_two_pow_sub_one, show 2 ^ 32 - 1 - y = 2 ^ 32 - (y + 1) by omega, Nat.testBit_two_pow_sub_succ h]
  by_cases hi : i < 32
  · simp [hi]
  · rw [Nat.testBit_lt_two_pow (Nat.lt_of_lt_of_le (show y < 2 ^ 32 from h) (Nat.pow_le_pow_right (n := 2) (by decide) (show 32 ≤ i by omega)))]
    simp [hi]
theorem csum_any (s : ByteArray) (w : World) (hs : s.size ≤ 140737488355328) :
    Calls Tryd.prog 63 #[.string s] w fun e w' => e = .returned (.int .u32 (crc s.data.toList)) ∧ w' = w := by
  obtain ⟨l, hl⟩ : ∃ l, l = s.data.toList := ⟨_, rfl⟩
  have HL : Hid (l.length = s.size) := show _ = _ from by rw [hl]; rfl
  have HLL := Lib.hid hl
  rw [← hl]
  clear hl
  go_enter Tryd.func63, Tryd.ntmps63
  go_wp2_with fail
  go_loopg [3, 9] s.size (fun gk x i wr => ∃ j y : Nat, j + gk = s.size ∧ y < 4294967296 ∧ i = .int .i64 j ∧ x = .int .u32 y ∧ Hid (y = crcAll (l.take j)) ∧ wr = w)
  case atStart => exact ⟨0, 4294967295, by omega, by decide, rfl, rfl, show _ = _ from rfl, rfl⟩
  case round =>
    obtain ⟨j, y, hj, hy, rfl, rfl, HY, rfl⟩ := hrel
    generalize gk = go at *
    by_cases hlt : j < s.size
    · have f0 : (0 : Int) ≤ j := by omega
      have f1 : (j : Int) < s.size := by omega
      obtain ⟨c, hc⟩ : ∃ c, c = s[j]'hlt := ⟨_, rfl⟩
      have hcb : (s[j]'hlt).toNat < 256 := by have := byte_lt (s[j]'hlt); omega
      have hx1 : bits .xor .u32 (y : Int) ((s[j]'hlt).toNat : Int) = ((y ^^^ (s[j]'hlt).toNat : Nat) : Int) := xor32 _ _ hy (by omega)
      have hw1 : IntKind.u32.wrap (((s[j]'hlt).toNat : Nat) : Int) = (((s[j]'hlt).toNat : Nat) : Int) := wrap32 _ (by omega) (by omega)
      have hz : y ^^^ (s[j]'hlt).toNat < 4294967296 := xor_lt32 hy (by omega)
      go_wp2_with fail
      apply wp_scope_straight
      go_wp2_with fail
      apply wp_label
      have HST : Hid (crcAll (l.take (j + 1)) = itN crcBit 8 (y ^^^ (s[j]'hlt).toNat)) := show _ = _ from by
        have h := crcAll_take l j (by rw [HL.out]; exact hlt)
        rw [h, HY.out]
        congr 3
        simp only [HLL.out]
        rfl
      clear hx1 hw1
      generalize y ^^^ (s[j]'hlt).toNat = z at *
      go_wp2_with fail
      go_loopg [3, 5] 8 (fun gk x k w2 => ∃ i v : Nat, i + gk = 8 ∧ v < 4294967296 ∧ k = .int .i64 i ∧ x = .int .u32 v ∧ Hid (v = itN crcBit i z) ∧ w2 = wr)
      case atStart => exact ⟨0, z, by omega, hz, rfl, rfl, show _ = _ from rfl, rfl⟩
      case round =>
        obtain ⟨i, v, hi, hv, rfl, rfl, HV, rfl⟩ := hrel
        by_cases h8 : i < 8
        · have hd : decide ((i : Int) < 8) = true := decide_eq_true (by omega)
          have ha1 : bits .and .u32 (v : Int) 1 = ((v % 2 : Nat) : Int) := by rw [← and_one v]; exact and32 v 1 hv (by decide)
          have hx2 : bits .xor .u32 (((v / 2 : Nat) : Int)) 3988292384 = ((v / 2 ^^^ 3988292384 : Nat) : Int) := xor32 (v / 2) 3988292384 (by omega) (by decide)
          have hx3 : bits .xor .u32 ((v : Int) / 2) 3988292384 = ((v / 2 ^^^ 3988292384 : Nat) : Int) := by rw [show (v : Int) / 2 = ((v / 2 : Nat) : Int) by omega]; exact hx2
          by_cases hp : v % 2 = 0
          · have HN : Hid (v / 2 = itN crcBit (i + 1) z) := show _ = _ from by
              show _ = crcBit (itN crcBit i z)
              rw [← HV.out, crcBit, if_pos hp]
            rw [hp] at ha1
            clear hp hx2 hx3
            go_wp2_with fail
            go_roundg (gk - 1)
            case measure => omega
            case rel => exact ⟨i + 1, v / 2, by omega, by omega, by go_num, congrArg (Value.int .u32) (by omega), HN, rfl⟩
          · have HN : Hid ((v / 2) ^^^ 3988292384 = itN crcBit (i + 1) z) := show _ = _ from by
              show _ = crcBit (itN crcBit i z)
              rw [← HV.out, crcBit, if_neg hp]
            have hlt2 : (v / 2) ^^^ 3988292384 < 4294967296 := xor_lt32 (by omega) (by decide)
            rw [show v % 2 = 1 by omega] at ha1
            clear hp
            go_wp2_with fail
            go_roundg (gk - 1)
            case measure => omega
            case rel => exact ⟨i + 1, (v / 2) ^^^ 3988292384, by omega, hlt2, by go_num, rfl, HN, rfl⟩
        · obtain rfl : i = 8 := by omega
          have HN : Hid (v = crcAll (l.take (j + 1))) := show _ = _ from by rw [HST.out, HV.out]
          go_wp2_with fail
          rw [Exit.noGoto_normal]
          go_wp2_with fail
          go_roundg (go - 1)
          case measure => omega
          case rel => exact ⟨j + 1, v, by omega, hv, by go_num, rfl, HN, rfl⟩
    · obtain rfl : j = s.size := by omega
      have HN : Hid (y = crcAll l) := show _ = _ from by rw [HY.out, ← HL.out, List.take_length]
      have hx : bits .xor .u32 IntKind.u32.max (y : Int) = ((4294967295 - y : Nat) : Int) := by
        rw [show IntKind.u32.max = 4294967295 from rfl]
        have h := xor32 4294967295 y (by decide) hy
        rw [show ((4294967295 : Nat) : Int) = 4294967295 from rfl] at h
        rw [h, xor_all y hy]
      go_wp2_with fail
      go_ret
      exact ⟨by rw [crc, ← HN.out]; rfl, rfl⟩
theorem crc_take8 (l : List UInt8) (i : Nat) (h : i < l.length) : crcAll (l.take (i + 1)) = rIt (l[i]'h).toNat 8 (crcAll (l.take i)) := by
  rw [crcAll_take l i h, rIt_byte _ _ (byte_lt _)]
theorem rsum8_any (s : ByteArray) (w : World) (hs : s.size ≤ 140737488355328) :
    Calls Tryd.prog 49 #[.string s] w fun e w' => e = .returned (.int .u32 (crc s.data.toList)) ∧ w' = w := by
  obtain ⟨l, hl⟩ : ∃ l, l = s.data.toList := ⟨_, rfl⟩
  have HL : Hid (l.length = s.size) := show _ = _ from by rw [hl]; rfl
  have HLL := Lib.hid hl
  rw [← hl]
  clear hl
  go_enter Tryd.func49, Tryd.ntmps49
  go_wp2_with fail
  go_loopg [3, 4] s.size (fun gk x i wr => ∃ j y : Nat, j + gk = s.size ∧ y < 4294967296 ∧ i = .int .i64 j ∧ x = .int .u32 y ∧ Hid (y = crcAll (l.take j)) ∧ wr = w)
  case atStart => exact ⟨0, 4294967295, by omega, by decide, rfl, rfl, show _ = _ from rfl, rfl⟩
  case round =>
    obtain ⟨j, y, hj, hy, rfl, rfl, HY, rfl⟩ := hrel
    generalize gk = go at *
    by_cases hlt : j < s.size
    · have f0 : (0 : Int) ≤ j := by omega
      have f1 : (j : Int) < s.size := by omega
      have hcb : (s[j]'hlt).toNat < 256 := byte_lt _
      have HST : Hid (crcAll (l.take (j + 1)) = rIt (s[j]'hlt).toNat 8 y) := show _ = _ from by
        have h := crc_take8 l j (by rw [HL.out]; exact hlt)
        rw [h, HY.out]
        congr 2
        simp only [HLL.out]
        rfl
      go_wp2_with fail
      go_loopg [3, 5] 8 (fun gk x k w2 => ∃ i v : Nat, i + gk = 8 ∧ v < 4294967296 ∧ k = .int .i64 i ∧ x = .int .u32 v ∧ Hid (v = rIt (s[j]'hlt).toNat i y) ∧ w2 = wr)
      case atStart => exact ⟨0, y, by omega, hy, rfl, rfl, show _ = _ from rfl, rfl⟩
      case round =>
        obtain ⟨i, v, hi, hv, rfl, rfl, HV, rfl⟩ := hrel
        by_cases h8 : i < 8
        · have hd : decide ((i : Int) < 8) = true := decide_eq_true (by omega)
          have f2 : (0 : Int) ≤ i := by omega
          have ha0 : bits .and .u32 (v : Int) 1 = ((v % 2 : Nat) : Int) := by rw [← and_one v]; exact and32 v 1 hv (by decide)
          have hq0 : bits .and .u32 (((s[j]'hlt).toNat : Int) / 2 ^ i % 4294967296) 1 = (((s[j]'hlt).toNat / 2 ^ i % 2 : Nat) : Int) := by
            have hle : (s[j]'hlt).toNat / 2 ^ i < 4294967296 := Nat.lt_of_le_of_lt (Nat.div_le_self _ _) (by omega)
            rw [show ((s[j]'hlt).toNat : Int) / 2 ^ i % 4294967296 = (((s[j]'hlt).toNat / 2 ^ i : Nat) : Int) by
              rw [Int.natCast_ediv, Int.natCast_pow]
              have h1 : (((s[j]'hlt).toNat / 2 ^ i : Nat) : Int) < ((4294967296 : Nat) : Int) := Int.ofNat_lt.2 hle
              rw [Int.natCast_ediv, Int.natCast_pow] at h1
              have h0 : (0 : Int) ≤ (((s[j]'hlt).toNat / 2 ^ i : Nat) : Int) := Int.natCast_nonneg _
              rw [Int.natCast_ediv, Int.natCast_pow] at h0
              exact Int.emod_eq_of_lt h0 h1, ← and_one]
            exact and32 _ 1 hle (by decide)
          have hx2 : bits .xor .u32 ((v : Int) / 2) 3988292384 = ((v / 2 ^^^ 3988292384 : Nat) : Int) := by rw [show (v : Int) / 2 = ((v / 2 : Nat) : Int) by omega]; exact xor32 (v / 2) 3988292384 (by omega) (by decide)
          have x00 : bits .xor .u32 0 0 = 0 := by decide
          have x01 : bits .xor .u32 0 1 = 1 := by decide
          have x10 : bits .xor .u32 1 0 = 1 := by decide
          have x11 : bits .xor .u32 1 1 = 0 := by decide
          have HB : Hid (∀ q r : Nat, (s[j]'hlt).toNat / 2 ^ i % 2 = q → v % 2 = r → rIt (s[j]'hlt).toNat (i + 1) y = if (q + r) % 2 = 1 then (v / 2) ^^^ 3988292384 else v / 2) := show ∀ q r : Nat, _ from fun q r h1 h2 => by
            show rBit _ i (rIt _ i y) = _
            rw [← HV.out, rBit, h1, h2]
          rcases Nat.mod_two_eq_zero_or_one ((s[j]'hlt).toNat / 2 ^ i) with hp | hp <;> rcases Nat.mod_two_eq_zero_or_one v with hr | hr
          · have HN := Lib.hid (HB.out 0 0 hp hr)
            rw [hp] at hq0
            rw [hr] at ha0
            have hq1 : bits .and .u32 (((s[j]'hlt).toNat : Int) / 2 ^ i % 4294967296) 1 = 0 := hq0
            have ha1 : bits .and .u32 (v : Int) 1 = 0 := ha0
            clear hp hr hq0 ha0 HB
            go_wp2_with fail
            go_roundg (gk - 1)
            case measure => omega
            case rel => exact ⟨i + 1, v / 2, by omega, by omega, by go_num, congrArg (Value.int .u32) (by omega), show _ = _ from HN.out.symm, rfl⟩
          · have HN := Lib.hid (HB.out 0 1 hp hr)
            rw [hp] at hq0
            rw [hr] at ha0
            have hq1 : bits .and .u32 (((s[j]'hlt).toNat : Int) / 2 ^ i % 4294967296) 1 = 0 := hq0
            have ha1 : bits .and .u32 (v : Int) 1 = 1 := ha0
            clear hp hr hq0 ha0 HB
            go_wp2_with fail
            go_roundg (gk - 1)
            case measure => omega
            case rel => exact ⟨i + 1, (v / 2) ^^^ 3988292384, by omega, xor_lt32 (by omega) (by decide), by go_num, rfl, show _ = _ from HN.out.symm, rfl⟩
          · have HN := Lib.hid (HB.out 1 0 hp hr)
            rw [hp] at hq0
            rw [hr] at ha0
            have hq1 : bits .and .u32 (((s[j]'hlt).toNat : Int) / 2 ^ i % 4294967296) 1 = 1 := hq0
            have ha1 : bits .and .u32 (v : Int) 1 = 0 := ha0
            clear hp hr hq0 ha0 HB
            go_wp2_with fail
            go_roundg (gk - 1)
            case measure => omega
            case rel => exact ⟨i + 1, (v / 2) ^^^ 3988292384, by omega, xor_lt32 (by omega) (by decide), by go_num, rfl, show _ = _ from HN.out.symm, rfl⟩
          · have HN := Lib.hid (HB.out 1 1 hp hr)
            rw [hp] at hq0
            rw [hr] at ha0
            have hq1 : bits .and .u32 (((s[j]'hlt).toNat : Int) / 2 ^ i % 4294967296) 1 = 1 := hq0
            have ha1 : bits .and .u32 (v : Int) 1 = 1 := ha0
            clear hp hr hq0 ha0 HB
            go_wp2_with fail
            go_roundg (gk - 1)
            case measure => omega
            case rel => exact ⟨i + 1, v / 2, by omega, by omega, by go_num, congrArg (Value.int .u32) (by omega), show _ = _ from HN.out.symm, rfl⟩
        · obtain rfl : i = 8 := by omega
          have HN : Hid (v = crcAll (l.take (j + 1))) := show _ = _ from by rw [HST.out, HV.out]
          go_wp2_with fail
          go_roundg (go - 1)
          case measure => omega
          case rel => exact ⟨j + 1, v, by omega, hv, by go_num, rfl, HN, rfl⟩
    · obtain rfl : j = s.size := by omega
      have HN : Hid (y = crcAll l) := show _ = _ from by rw [HY.out, ← HL.out, List.take_length]
      have hx : IntKind.u32.wrap (4294967295 - (y : Int)) = ((4294967295 - y : Nat) : Int) := by rw [wrap32 _ (by omega) (by omega)]; omega
      go_wp2_with fail
      go_ret
      exact ⟨by rw [crc, ← HN.out]; rfl, rfl⟩
end Go.Proofs.YtbeooeihedhabaaDoor
