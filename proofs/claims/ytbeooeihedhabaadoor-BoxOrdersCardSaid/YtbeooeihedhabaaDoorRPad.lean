/- The reference's numbers, texts and lists: what the calls do. SHA-256 as the reference pads it: plain Lean. -/
import Derived.Test.YtbeooeihedhabaaDoorCBuf
import Derived.Test.YtbeooeihedhabaaDoorReg
import Derived.Test.YtbeooeihedhabaaDoorSeal
import Derived.Test.YtbeooeihedhabaaDoorNums
namespace Go.Proofs.YtbeooeihedhabaaDoor
open Go.RowKit
set_option maxHeartbeats 400000 in
set_option maxRecDepth 4000 in
theorem rnumber_neg (n : Int) (w : World) (h : n < 0) :
    Calls Tryd.prog 48 #[.int .i64 n] w fun e w' => e = .returned (.tuple #[.string ByteArray.empty, .int .i64 2]) ∧ w' = w := by
  go_enter Tryd.func48, Tryd.ntmps48
  go_wp2
  go_ret2
  exact ⟨rfl, rfl⟩
theorem rnum_step {n k : Nat} {tl : List UInt8} (hk : 0 < k) (h : numB n = numB k ++ tl) : numB n = numB (k / 256) ++ UInt8.ofNat (k % 256) :: tl := by
  rw [h, numB_pos hk]; simp
set_option maxHeartbeats 400000 in
set_option maxRecDepth 4000 in
theorem rnumber_any (n : Int) (w : World) (h : 0 ≤ n) (h2 : n ≤ 9223372036854775807) :
    Calls Tryd.prog 48 #[.int .i64 n] w fun e w' => e = .returned (.tuple #[.string (bstr (numEnc n.toNat)), .int .i64 0]) ∧ Below w.heap.size w w' := by
  obtain ⟨n, rfl⟩ := Int.eq_ofNat_of_zero_le h
  go_enter Tryd.func48, Tryd.ntmps48
  go_wp2
  go_loopw [0, 4, 5] (fun n0 s c wr => ∃ (k m : Nat) (tl : List UInt8), k ≤ 9223372036854775807 ∧ m ≤ 8 ∧ k < 256 ^ m ∧ Hid (m + tl.length = 8) ∧ Hid (numB n = numB k ++ tl) ∧ n0 = .int .i64 k ∧ s = .string (bstr tl) ∧ c = .int .i64 tl.length ∧ Hid (Below w.heap.size w wr)) (fun n0 _ _ _ => (intOf n0).toNat)
  case atStart => exact ⟨n, 8, [], by omega, by omega, by omega, rfl, show _ = _ by simp, rfl, rfl, rfl, Below.refl _ _⟩
  case round =>
    obtain ⟨k, m, tl, hk, hm, hkm, hml, hn, rfl, rfl, rfl, hB⟩ := hrel
    have htl : tl.length ≤ 8 := by have := hml.out; omega
    by_cases hlt : 0 < k
    · have hcv := fun W => conv_byte ((k : Int) % 256) (by omega) (by omega) W
      have hsz : (bstr [UInt8.ofNat (k % 256)]).size + (bstr tl).size ≤ 9223372036854775807 := by rw [bstr_size, bstr_size]; simp; omega
      have hm1 : 1 ≤ m := num_m1 hlt hkm
      go_wp2
      go_roundw
      case rel =>
        refine ⟨k / 256, m - 1, UInt8.ofNat (k % 256) :: tl, by omega, by omega, num_lt hm1 hkm, show _ = _ by have := hml.out; simp; omega, rnum_step hlt hn.out, by go_num, ?_, by simp, bw_alloc hB.out _⟩
        rw [bstr_append]
        congr 2
      case measure => simp [intOf]; omega
    · obtain rfl : k = 0 := by omega
      have hcv := fun W => conv_byte (tl.length : Int) (by omega) (by omega) W
      have hsz : (bstr [UInt8.ofNat tl.length]).size + (bstr tl).size ≤ 9223372036854775807 := by rw [bstr_size, bstr_size]; simp; omega
      go_wp2
      go_ret2
      refine ⟨?_, bw_alloc hB.out _⟩
      have h5 := hn.out
      rw [numB_zero, List.nil_append] at h5
      rw [Int.toNat_natCast, numEnc, h5]
      rfl
set_option maxHeartbeats 400000 in
set_option maxRecDepth 4000 in
theorem rtext_any (s : ByteArray) (w : World) (h : s.size ≤ 65536) :
    Calls Tryd.prog 54 #[.string s] w fun e w' => e = .returned (.tuple #[.string (bstr (encText s)), .int .i64 0]) ∧ Below w.heap.size w w' := by
  have hn := num_small (n := s.size) (by omega)
  have hsz : (bstr (numEnc s.size)).size + s.size ≤ 9223372036854775807 := by rw [bstr_size]; omega
  go_enter Tryd.func54, Tryd.ntmps54
  go_wp2_with fail
  refine (rnumber_any _ _ (by omega) (by omega)).mono ?_
  rintro e w1 ⟨rfl, hb⟩
  rw [Int.toNat_natCast]
  have HB := Lib.hid hb
  clear hb
  go_wp2_with fail
  go_ret2
  exact ⟨by rw [show bstr (numEnc s.size) ++ s = bstr (encText s) by rw [← bstr_of s, bstr_append]; rfl]; rfl, HB.out⟩
theorem enc_size {s : ByteArray} (h : s.size ≤ 65536) : (bstr (encText s)).size ≤ s.size + 4 := by
  have hn := num_small (n := s.size) (by omega)
  have h2 : s.data.toList.length = s.size := rfl
  rw [bstr_size, encText, List.length_append]
  omega
theorem rlist_len {ls : List ByteArray} {k : Nat} (hl : ls.length ≤ 1024) (ht : tot ls ≤ 65536) : (numEnc ls.length ++ encTexts (ls.take k)).length ≤ 4 + 65536 + 4 * 1024 := by
  have h1 := num_small (n := ls.length) (by omega)
  have h2 := encd_tot (ls.take k) fun s hs => Nat.le_trans (size_le_tot (List.mem_of_mem_take hs)) ht
  have h3 := tot_le ls k
  have h4 : (encTexts (ls.take k)).length = tot (encd (ls.take k)) := by
    rw [← flat_length]
    unfold flat encTexts encd
    rw [List.map_map]
    rfl
  have h5 : (ls.take k).length ≤ 1024 := by rw [List.length_take]; omega
  rw [List.length_append]
  omega
theorem encTexts_snoc {ls : List ByteArray} {k : Nat} (h : k < ls.length) : encTexts (ls.take k) ++ encText (ls[k]'h) = encTexts (ls.take (k + 1)) := by
  rw [List.take_succ_eq_append_getElem h]
  unfold encTexts
  rw [List.map_append, List.flatten_append]
  simp
set_option maxHeartbeats 1000000 in
set_option maxRecDepth 4000 in
theorem rlist_ok (v : Value) (ls : List ByteArray) (w : World) (hv : RdStrs w v ls) (hl : ls.length ≤ 1024) (ht : tot ls ≤ 65536) :
    Calls Tryd.prog 24 #[v] w fun e w' => e = .returned (.tuple #[.string (bstr (encList ls)), .int .i64 0]) ∧ Below w.heap.size w w' := by
  obtain ⟨A, c, rfl, _, b, off, hb0, hr⟩ := hv
  have HR := Lib.hid hr
  have HTT := Lib.hid ht
  have hn := num_small (n := ls.length) (by omega)
  clear hr ht
  go_enter Tryd.func24, Tryd.ntmps24
  go_wp2_with fail
  refine (rnumber_any _ _ (by omega) (by omega)).mono ?_
  rintro e w1 ⟨rfl, hb⟩
  rw [Int.toNat_natCast]
  have HB := Lib.hid hb
  have hs1 := hb.size
  obtain ⟨v1, W1, hcv, hO1, hb1⟩ := conv_own w1 (bstr (numEnc ls.length)) (by rw [bstr_size]; unfold maxLen; omega)
  have HO1 := Lib.hid hO1
  have HB1 := Lib.hid (bw_call hb hb1)
  clear hb hO1 hb1
  go_wp2_with fail
  clear hcv
  go_loopw [6, 7, 8] (fun o sum i wr => ∃ k T : Nat, k ≤ ls.length ∧ T ≤ 65536 ∧ Hid (T = tot (ls.take k)) ∧ i = .int .i64 k ∧ sum = .int .i64 T ∧ Hid (Below w.heap.size w wr) ∧ Hid (OwnB w.heap.size o (numEnc ls.length ++ encTexts (ls.take k)) wr)) (fun _ _ i _ => ls.length - (intOf i).toNat)
  case atStart => exact ⟨0, 0, by omega, by omega, rfl, rfl, rfl, HB1.out, show OwnB w.heap.size v1 (numEnc ls.length ++ []) W1 from by rw [List.append_nil]; exact HO1.out.mono hs1⟩
  case round =>
    clear HO1 HB1
    obtain ⟨k, T, hk, hT1, hT, rfl, rfl, hB, hO⟩ := hrel
    by_cases hlt : k < ls.length
    · obtain ⟨rfl, hc0⟩ := HR.out k hlt
      have hc := join_cell hB.out hb0 hc0
      clear hc0
      have hs := tot_snoc ls k hlt
      have hs2 := tot_le ls (k + 1)
      have hs4 : (ls[k]).size ≤ 65536 - T := by have := hT.out; have := HTT.out; omega
      have hs5 : (ls[k]).size ≤ 65536 := by omega
      have HS := Lib.hid hs
      have HLen := Lib.hid (rlist_len (k := k) hl HTT.out)
      clear hs hs2
      go_wp2_with fail
      refine (rtext_any _ _ hs5).mono ?_
      rintro e w2 ⟨rfl, hb2⟩
      have HB2 := Lib.hid (bw_call hB.out hb2)
      have hO2 := hO.out.below hb2 (Nat.le_refl _)
      have hsz2 := enc_size hs5
      clear hb2 hO hB
      go_wp2_with ((at_builtin; refine wpList_app_str rfl (.tmp 51) (.tmp 52) rfl w.heap.size _ _ rfl hO2 (bstr (encText ls[k])) rfl (by have := HLen.out; omega) ?_); intro v3 w3 hO3 hb3)
      go_roundw
      case rel => exact ⟨k + 1, T + (ls[k]).size, by omega, by omega, show _ = _ by rw [HS.out, ← hT.out], by go_num, by go_num, HB2.out.trans hb3.out, by have := hO3.out; rw [bstr_toList, List.append_assoc, encTexts_snoc hlt] at this; exact this⟩
      case measure => simp [intOf]; omega
    · obtain rfl : k = ls.length := by omega
      have hcv := hO.out.conv
      rw [List.take_length] at hcv
      go_wp2_with fail
      go_ret2
      exact ⟨rfl, hB.out⟩
def padZ (n : Nat) : Nat := (119 - n % 64) % 64
def padB (bits : Nat) : Nat → List UInt8
  | 0 => []
  | i + 1 => padB bits i ++ [UInt8.ofNat (bits / 2 ^ (8 * (7 - i)) % 256)]
theorem padB_length (bits : Nat) : ∀ i, (padB bits i).length = i
  | 0 => rfl
  | i + 1 => by simp [padB, padB_length bits i]
def pad (l : List UInt8) : List UInt8 := l ++ [128] ++ zr (padZ l.length) ++ padB (l.length * 8) 8
theorem pad_length (l : List UInt8) : (pad l).length = l.length + 1 + padZ l.length + 8 := by
  simp [pad, zr_length, padB_length]
  omega
theorem runFrom_congr (s : St) (a b : List UInt8) : ∀ k, (∀ q, q < k → blk a q = blk b q) → runFrom s a k = runFrom s b k
  | 0, _ => rfl
  | k + 1, h => by
    rw [runFrom, runFrom, runFrom_congr s a b k fun q hq => h q (by omega), h k (by omega)]
theorem runFrom_add (s : St) (a : List UInt8) (m : Nat) : ∀ k, runFrom s a (m + k) = runFrom (runFrom s a m) (a.drop (64 * m)) k
  | 0 => rfl
  | k + 1 => by
    rw [← Nat.add_assoc, runFrom, runFrom, runFrom_add s a m k]
    congr 1
    unfold blk
    rw [List.drop_drop]
    congr 2
    omega
theorem blk_append {a b : List UInt8} {q : Nat} (h : 64 * q + 64 ≤ a.length) : blk (a ++ b) q = blk a q := by
  unfold blk
  rw [List.drop_append_of_le_length (by omega), List.take_append_of_le_length (by rw [List.length_drop]; omega)]
theorem set_end (A B C : List UInt8) (k : Nat) (x y : UInt8) (h : B.length = k) : (A ++ (B ++ y :: C)).set (A.length + k) x = A ++ (B ++ x :: C) := by
  subst h
  rw [List.set_append_right _ _ (by omega), Nat.add_sub_cancel_left, List.set_append_right _ _ (by omega), Nat.sub_self]
  rfl
theorem lens_end (A C : List UInt8) (bits : Nat) (x0 x1 x2 x3 x4 x5 x6 x7 : UInt8) :
    lens (A ++ (x0 :: x1 :: x2 :: x3 :: x4 :: x5 :: x6 :: x7 :: C)) (A.length + 8) bits 8 = A ++ (padB bits 8 ++ C) := by
  simp only [lens, padB]
  rw [show A.length + 8 - 1 - 0 = A.length + 7 by omega, show A.length + 8 - 1 - 1 = A.length + 6 by omega, show A.length + 8 - 1 - 2 = A.length + 5 by omega, show A.length + 8 - 1 - 3 = A.length + 4 by omega,
    show A.length + 8 - 1 - 4 = A.length + 3 by omega, show A.length + 8 - 1 - 5 = A.length + 2 by omega, show A.length + 8 - 1 - 6 = A.length + 1 by omega, show A.length + 8 - 1 - 7 = A.length + 0 by omega]
  rw [show x0 :: x1 :: x2 :: x3 :: x4 :: x5 :: x6 :: x7 :: C = [x0, x1, x2, x3, x4, x5, x6] ++ x7 :: C from rfl, set_end _ _ _ 7 _ _ rfl]
  rw [show ∀ y, [x0, x1, x2, x3, x4, x5, x6] ++ y :: C = [x0, x1, x2, x3, x4, x5] ++ x6 :: (y :: C) from fun _ => rfl, set_end _ _ _ 6 _ _ rfl]
  rw [show ∀ y z, [x0, x1, x2, x3, x4, x5] ++ z :: (y :: C) = [x0, x1, x2, x3, x4] ++ x5 :: (z :: (y :: C)) from fun _ _ => rfl, set_end _ _ _ 5 _ _ rfl]
  rw [show ∀ y : List UInt8, [x0, x1, x2, x3, x4] ++ y = [x0, x1, x2, x3] ++ x4 :: y from fun _ => rfl, set_end _ _ _ 4 _ _ rfl]
  rw [show ∀ y : List UInt8, [x0, x1, x2, x3] ++ y = [x0, x1, x2] ++ x3 :: y from fun _ => rfl, set_end _ _ _ 3 _ _ rfl]
  rw [show ∀ y : List UInt8, [x0, x1, x2] ++ y = [x0, x1] ++ x2 :: y from fun _ => rfl, set_end _ _ _ 2 _ _ rfl]
  rw [show ∀ y : List UInt8, [x0, x1] ++ y = [x0] ++ x1 :: y from fun _ => rfl, set_end _ _ _ 1 _ _ rfl]
  rw [show ∀ y : List UInt8, [x0] ++ y = [] ++ x0 :: y from fun _ => rfl, set_end _ _ _ 0 _ _ rfl]
  rfl
theorem zr_add (a b : Nat) : zr (a + b) = zr a ++ zr b := by unfold zr; rw [List.replicate_append_replicate]
theorem shaEnd_eq {l : List UInt8} {m n sz : Nat} (h1 : 64 * m ≤ l.length) (h2 : n = l.length - 64 * m) (h3 : n < 64) (h4 : sz = if 56 ≤ n then 128 else 64) :
    shaEnd l m sz = (pad l).drop (64 * m) ++ zr (128 - sz) := by
  have hT : (l.drop (64 * m)).length = n := by rw [List.length_drop, h2]
  have hp : padZ l.length = sz - 8 - n - 1 := by
    unfold padZ
    split at h4 <;> omega
  have hsz : n + 9 ≤ sz ∧ sz ≤ 128 := by split at h4 <;> omega
  have hd : (pad l).drop (64 * m) = l.drop (64 * m) ++ ([128] ++ zr (padZ l.length)) ++ padB (l.length * 8) 8 := by
    unfold pad
    rw [List.append_assoc, List.append_assoc, List.append_assoc, List.append_assoc, List.drop_append_of_le_length h1]
  rw [hd, shaEnd, ← h2]
  have e1 : (l.drop (64 * m) ++ zr (128 - n)).set n 128 = (l.drop (64 * m) ++ ([128] ++ zr (padZ l.length))) ++ (0 :: 0 :: 0 :: 0 :: 0 :: 0 :: 0 :: 0 :: zr (128 - sz)) := by
    rw [show 128 - n = 1 + (padZ l.length + (8 + (128 - sz))) by omega, zr_add, zr_add, zr_add]
    rw [show zr 1 = [0] from rfl, show zr 8 = [0, 0, 0, 0, 0, 0, 0, 0] from rfl]
    have := set_end (l.drop (64 * m)) [] (zr (padZ l.length) ++ ([0, 0, 0, 0, 0, 0, 0, 0] ++ zr (128 - sz))) 0 128 0 rfl
    rw [hT, Nat.add_zero] at this
    refine Eq.trans this ?_
    simp
  have e2 : (l.drop (64 * m) ++ ([128] ++ zr (padZ l.length))).length + 8 = sz := by
    simp only [List.length_append, hT, zr_length, List.length_cons, List.length_nil, hp]
    omega
  rw [e1]
  have := lens_end (l.drop (64 * m) ++ ([128] ++ zr (padZ l.length))) (zr (128 - sz)) (l.length * 8) 0 0 0 0 0 0 0 0
  rw [e2] at this
  rw [this, ← List.append_assoc]
theorem sha_pad (l : List UInt8) : (runFrom shaInit (pad l) ((pad l).length / 64)).out = sha l := by
  obtain ⟨m, hm⟩ : ∃ m, m = l.length / 64 := ⟨_, rfl⟩
  obtain ⟨n, hn⟩ : ∃ n, n = l.length - 64 * m := ⟨_, rfl⟩
  obtain ⟨sz, hsz⟩ : ∃ sz, sz = if 56 ≤ n then 128 else 64 := ⟨_, rfl⟩
  have h1 : 64 * m ≤ l.length := by omega
  have h3 : n < 64 := by omega
  have hl : (pad l).length = 64 * m + sz := by
    rw [pad_length]
    unfold padZ
    split at hsz <;> omega
  have hk : (pad l).length / 64 = m + sz / 64 := by rw [hl]; split at hsz <;> omega
  have hse := shaEnd_eq h1 hn h3 hsz
  rw [hk, runFrom_add]
  have e1 : runFrom shaInit (pad l) m = runFrom shaInit l m := runFrom_congr _ _ _ m fun q hq => by
    unfold pad
    rw [List.append_assoc, List.append_assoc]
    exact blk_append (by omega)
  have e2 : ∀ s, runFrom s ((pad l).drop (64 * m)) (sz / 64) = runFrom s (shaEnd l m sz) (sz / 64) := fun s => runFrom_congr _ _ _ _ fun q hq => by
    rw [hse]
    refine (blk_append ?_).symm
    rw [List.length_drop, hl]
    omega
  rw [e1, e2]
  have := sha_eq h1 hn h3 hsz
  rw [this]
  unfold shaEnd
  rw [← hn]
open Go.RowKit
theorem bits_or_flip (x y : Int) : bits .or .u32 x y = bits .or .u32 y x := by simp only [bits, BitVec.or_comm]
theorem right_val {x : Int} {n : Nat} (h0 : 0 ≤ x) (h1 : x ≤ 4294967295) (hn : 1 ≤ n) (hn2 : n ≤ 31) : IntKind.u32.wrap (x / 2 ^ n + x * 2 ^ (32 - n) % 4294967296) = rot x n := by
  have h32 : (4294967296 : Int) = 2 ^ n * 2 ^ (32 - n) := by
    rw [← Int.pow_add, show n + (32 - n) = 32 by omega]
    rfl
  have hp : (0 : Int) < 2 ^ n := Int.pow_pos (by decide)
  have hq : (0 : Int) < 2 ^ (32 - n) := Int.pow_pos (by decide)
  have hx0 : 0 ≤ x / 2 ^ n := Int.ediv_nonneg h0 (Int.le_of_lt hp)
  have hx1 : x / 2 ^ n < 2 ^ (32 - n) := Int.ediv_lt_of_lt_mul hp (by rw [Int.mul_comm, ← h32]; omega)
  have hy0 : 0 ≤ x * 2 ^ (32 - n) % 4294967296 := Int.emod_nonneg _ (by decide)
  have hy1 : x * 2 ^ (32 - n) % 4294967296 < 4294967296 := Int.emod_lt_of_pos _ (by decide)
  have hy2 : x * 2 ^ (32 - n) % 4294967296 % 2 ^ (32 - n) = 0 := by
    rw [h32, Int.emod_emod_of_dvd _ (Int.dvd_mul_left ..), Int.mul_emod_left]
  have hx2 : x / 2 ^ n < 4294967296 := by
    refine Int.lt_of_lt_of_le hx1 ?_
    rw [h32]
    have := Int.mul_le_mul_of_nonneg_right (show (1 : Int) ≤ 2 ^ n by omega) (Int.le_of_lt hq)
    omega
  have hj := or32 (x := x * 2 ^ (32 - n) % 4294967296) (y := x / 2 ^ n) (32 - n) hy0 hy2 hy1 hx0 hx1 hx2
  rw [rot, bits_or_flip, hj, Int.add_comm]
  refine wrap32_in (by omega) ?_
  have hd : x * 2 ^ (32 - n) % 4294967296 ≤ 4294967296 - 2 ^ (32 - n) := by
    have e := Int.emod_add_mul_ediv (x * 2 ^ (32 - n) % 4294967296) (2 ^ (32 - n))
    rw [hy2, Int.zero_add] at e
    have hk : x * 2 ^ (32 - n) % 4294967296 / 2 ^ (32 - n) < 2 ^ n := Int.ediv_lt_of_lt_mul hq (by rw [← h32]; exact hy1)
    have := Int.mul_le_mul_of_nonneg_left (show x * 2 ^ (32 - n) % 4294967296 / 2 ^ (32 - n) ≤ 2 ^ n - 1 by omega) (Int.le_of_lt hq)
    rw [Int.mul_sub, Int.mul_one, Int.mul_comm (2 ^ (32 - n)) (2 ^ n), ← h32, e] at this
    exact this
  omega
set_option maxHeartbeats 400000 in
theorem right_any (x n : Int) (w : World) (h0 : 0 ≤ x) (h1 : x ≤ 4294967295) (hn : 1 ≤ n) (hn2 : n ≤ 31) :
    Calls Tryd.prog 80 #[.int .u32 x, .int .i64 n] w fun e w' => e = .returned (.int .u32 (rotI x n)) ∧ ∃ m, w' = w.drewN m := by
  obtain ⟨n, rfl⟩ := Int.eq_ofNat_of_zero_le (show 0 ≤ n by omega)
  have hA : (0 : Int) ≤ n := by omega
  have hB : (0 : Int) ≤ 32 - n := by omega
  have hv := Lib.hid (right_val (x := x) (n := n) h0 h1 (by omega) (by omega))
  go_enter Tryd.func80, Tryd.ntmps80
  go_wp2
  go_quiet (fail)
  go_wp2
  go_ret
  refine ⟨?_, _, rfl⟩
  rw [rotI, Int.toNat_natCast, ← hv.out, IntKind.wrap_u32]
  rfl
theorem rot_range {x : Int} {n : Nat} (h0 : 0 ≤ x) (h1 : x ≤ 4294967295) (hn : 1 ≤ n) (hn2 : n ≤ 31) : 0 ≤ rot x n ∧ rot x n ≤ 4294967295 := by
  rw [← right_val h0 h1 hn hn2, IntKind.wrap_u32]
  omega
def thr (x a b c : Int) : Int := xr (xr (rotI x a) (rotI x b)) (rotI x c)
set_option maxHeartbeats 400000 in
theorem three_any (x a b c : Int) (w : World) (h0 : 0 ≤ x) (h1 : x ≤ 4294967295) (ha : 1 ≤ a) (ha2 : a ≤ 31) (hb : 1 ≤ b) (hb2 : b ≤ 31) (hc : 1 ≤ c) (hc2 : c ≤ 31) :
    Calls Tryd.prog 81 #[.int .u32 x, .int .i64 a, .int .i64 b, .int .i64 c] w fun e w' => e = .returned (.int .u32 (thr x a b c)) ∧ ∃ m, w' = w.drewN m := by
  go_enter Tryd.func81, Tryd.ntmps81
  go_wp2_with fail
  refine (right_any x a _ h0 h1 ha ha2).mono ?_
  rintro e w1 ⟨rfl, m1, rfl⟩
  go_wp2_with fail
  refine (right_any x b _ h0 h1 hb hb2).mono ?_
  rintro e w2 ⟨rfl, m2, rfl⟩
  go_wp2_with fail
  refine (right_any x c _ h0 h1 hc hc2).mono ?_
  rintro e w3 ⟨rfl, m3, rfl⟩
  go_wp2_with fail
  go_ret
  exact ⟨rfl, m1 + m2 + m3, by simp [World.drewN]⟩
abbrev rkV : List Value := [.int .u32 1116352408, .int .u32 1899447441, .int .u32 3049323471, .int .u32 3921009573, .int .u32 961987163, .int .u32 1508970993, .int .u32 2453635748, .int .u32 2870763221, .int .u32 3624381080, .int .u32 310598401, .int .u32 607225278, .int .u32 1426881987, .int .u32 1925078388, .int .u32 2162078206, .int .u32 2614888103, .int .u32 3248222580, .int .u32 3835390401, .int .u32 4022224774, .int .u32 264347078, .int .u32 604807628, .int .u32 770255983, .int .u32 1249150122, .int .u32 1555081692, .int .u32 1996064986, .int .u32 2554220882, .int .u32 2821834349, .int .u32 2952996808, .int .u32 3210313671, .int .u32 3336571891, .int .u32 3584528711, .int .u32 113926993, .int .u32 338241895, .int .u32 666307205, .int .u32 773529912, .int .u32 1294757372, .int .u32 1396182291, .int .u32 1695183700, .int .u32 1986661051, .int .u32 2177026350, .int .u32 2456956037, .int .u32 2730485921, .int .u32 2820302411, .int .u32 3259730800, .int .u32 3345764771, .int .u32 3516065817, .int .u32 3600352804, .int .u32 4094571909, .int .u32 275423344, .int .u32 430227734, .int .u32 506948616, .int .u32 659060556, .int .u32 883997877, .int .u32 958139571, .int .u32 1322822218, .int .u32 1537002063, .int .u32 1747873779, .int .u32 1955562222, .int .u32 2024104815, .int .u32 2227730452, .int .u32 2361852424, .int .u32 2428436474, .int .u32 2756734187, .int .u32 3204031479, .int .u32 3329325298]
theorem rkV_eq : rkV = u32v rkL := rfl
set_option maxHeartbeats 400000 in
set_option maxRecDepth 4000 in
theorem word_any (t : Nat) (w : World) (ht : t < 64) :
    Calls Tryd.prog 82 #[.int .i64 t] w fun e w' => e = .returned (.int .u32 (rkL.getD t 0)) ∧ Below w.heap.size w w' := by
  have hc : (w.alloc (.cells rkV.toArray 77)).cell? ⟨w.heap.size, t, none⟩ = some (.int .u32 (rkL.getD t 0)) := by
    rw [rkV_eq, cell_of_row _ w.heap.size t _ _ _ (heap_alloc_new w _), u32v_at _ t (by rw [rkL_length]; exact ht)]
  obtain ⟨r, hr⟩ : ∃ r, r = rkL.getD t 0 := ⟨_, rfl⟩
  rw [← hr] at hc ⊢
  clear hr
  have h0 : (0 : Int) ≤ t := by omega
  have h1 : (t : Int) < 64 := by omega
  go_enter Tryd.func82, Tryd.ntmps82
  go_wp2
  go_ret
  exact ⟨rfl, bw_alloc (Below.refl _ _) _⟩
open Go.RowKit
theorem OwnB.shape {B : Nat} {v : Value} {xs : List UInt8} {w : World} (h : OwnB B v xs w) : ∃ g cap, v = .slice (some ⟨g, 0, none⟩) xs.length cap := by
  obtain ⟨g, cap, rest, fr, hv, _⟩ := h
  exact ⟨g, cap, hv⟩
def lenOf : Value → Nat
  | .slice _ n _ => n
  | _ => 0
theorem OwnB.lenOf {B : Nat} {v : Value} {xs : List UInt8} {w : World} (h : OwnB B v xs w) : lenOf v = xs.length := by
  obtain ⟨g, cap, rest, fr, rfl, _⟩ := h
  rfl
theorem OwnB.shapeN {B N : Nat} {v : Value} {xs : List UInt8} {w : World} (h : OwnB B v xs w) (hN : xs.length = N) : ∃ g cap, v = .slice (some ⟨g, 0, none⟩) N cap := by
  subst hN
  exact h.shape
theorem OwnB.empty (w : World) (t : TypeId) (ht : t = 5) {B : Nat} (hB : B ≤ w.heap.size) : OwnB B (.slice (some ⟨w.heap.size, 0, none⟩) 0 0) [] (w.alloc (.cells #[] t)) := by
  subst ht
  exact ⟨w.heap.size, 0, [], (0, 0), rfl, hB, heap_alloc_new w _, rfl, by simp [maxLen], .inl rfl⟩
theorem take_snoc {l : List UInt8} {i : Nat} (h : i < l.length) : l.take i ++ [l.getD i 0] = l.take (i + 1) := by
  rw [List.take_succ_eq_append_getElem h, List.getD_eq_getElem?_getD, List.getElem?_eq_getElem h]
  rfl
set_option maxHeartbeats 400000 in
set_option maxRecDepth 4000 in
theorem rbytes_any (h : List UInt8) (w : World) (hl : h.length = 32) :
    Calls Tryd.prog 26 #[.agg (u8s h).toArray] w fun e w' => e = .returned (.string (bstr h)) ∧ Below w.heap.size w w' := by
  have HL := Lib.hid hl
  have hO0 := Lib.hid (OwnB.empty (w.alloc (.cells (u8s h).toArray 51)) _ rfl (B := w.heap.size + 1) (by simp))
  have hg0 := Lib.hid ((Below.heap_alloc (w.alloc (.cells (u8s h).toArray 51)) (.cells #[] 5) w.heap.size (by simp)).trans (heap_alloc_new w (.cells (u8s h).toArray 51)))
  clear hl
  go_enter Tryd.func26, Tryd.ntmps26
  go_wp2
  go_loopw [3, 4] (fun b i wr => ∃ k : Nat, k ≤ 32 ∧ i = .int .i64 k ∧ Hid (Below w.heap.size w wr) ∧ Hid (wr.heap[w.heap.size]? = some (.cells (u8s h).toArray 51 (0, 0))) ∧ Hid (OwnB (w.heap.size + 1) b (h.take k) wr)) (fun _ i _ => 32 - (intOf i).toNat)
  case atStart => exact ⟨0, by omega, rfl, bw_alloc (bw_alloc (Below.refl _ _) _) _, hg0.out, show OwnB _ _ _ _ from by simpa using hO0.out⟩
  case round =>
    clear hO0 hg0
    obtain ⟨k, hk, rfl, hB, hg, hO⟩ := hrel
    by_cases hlt : k < 32
    · have hc : wr.cell? ⟨w.heap.size, k, none⟩ = some (.int .u8 (h.getD k 0).toNat) := by
        rw [cell_of_row wr _ k _ _ _ hg.out, List.getElem?_toArray, u8s_get h k (by rw [HL.out]; exact hlt)]
        simp [List.getElem?_eq_getElem (show k < h.length by rw [HL.out]; exact hlt)]
      have h0 : (0 : Int) ≤ k := by omega
      have h1 : (k : Int) < 32 := by omega
      have hlk : (h.take k).length ≤ 32 := by rw [List.length_take]; omega
      obtain ⟨c, hcq⟩ : ∃ c, c = h.getD k 0 := ⟨_, rfl⟩
      rw [← hcq] at hc
      have HC := Lib.hid hcq
      clear hcq
      go_wp2_with ((at_builtin; go_loud (refine wpList_app_byte rfl (.tmp 10) (.tmp 14) rfl (w.heap.size + 1) _ (h.take k) (by rfl) hO.out c _ (by rfl) (by rfl) _ (by omega) ?_)); intro v3 w3 hO3 hb3)
      go_roundw
      case rel => exact ⟨k + 1, by omega, by go_num, hB.out.trans (hb3.out.mono (by omega)), (hb3.out.block _ (by omega)).trans hg.out, by have := hO3.out; rw [HC.out, take_snoc (by rw [HL.out]; exact hlt)] at this; exact this⟩
      case measure => simp [intOf]; omega
    · obtain rfl : k = 32 := by omega
      have hcv := hO.out.conv
      rw [List.take_of_length_le (by rw [HL.out]; omega)] at hcv
      go_wp2
      go_ret
      exact ⟨rfl, hB.out⟩
theorem byte_cast2 (n i : Nat) : ((n : Int) / 2 ^ i % 256) = ((UInt8.ofNat (n / 2 ^ i % 256)).toNat : Int) := byte_cast n i
set_option maxHeartbeats 1000000 in
set_option maxRecDepth 4000 in
theorem padded_any (s : ByteArray) (w : World) (hs : s.size ≤ 140737488355200) :
    Calls Tryd.prog 79 #[.string s] w fun e w' => ∃ v, e = .returned v ∧ OwnB w.heap.size v (pad s.data.toList) w' ∧ Below w.heap.size w w' := by
  obtain ⟨v1, W1, hcv, hO1, hb1⟩ := conv_own w s (by unfold maxLen; omega)
  obtain ⟨g1, c1, rfl⟩ := hO1.shape
  have hsl : s.data.toList.length = s.size := rfl
  rw [hsl] at hcv
  have HO1 := Lib.hid hO1
  have HB1 := Lib.hid hb1
  have HSL := Lib.hid hsl
  obtain ⟨S, hS⟩ : ∃ S, S = s.data.toList := ⟨_, rfl⟩
  rw [← hS] at HO1 HSL ⊢
  clear hO1 hb1 hsl hS
  obtain ⟨P, hP⟩ : ∃ P, P = padZ s.size := ⟨_, rfl⟩
  have hP2 : (s.size + 1 + P) % 64 = 56 ∧ P < 64 ∧ ∀ z, z < P → (s.size + 1 + z) % 64 ≠ 56 := by
    rw [hP]
    unfold padZ
    refine ⟨by omega, by omega, fun z hz => by omega⟩
  obtain ⟨hPa, hPb, hPc⟩ := hP2
  have HPC := Lib.hid hPc
  have HP := Lib.hid hP
  clear hP hPc
  go_enter Tryd.func79, Tryd.ntmps79
  go_wp2_with ((at_builtin; refine wpList_app_byte rfl (.tmp 8) (.tmp 9) rfl w.heap.size _ S (by rw [HSL.out]; rfl) HO1.out 128 _ rfl rfl _ (by rw [HSL.out]; omega) ?_); intro v2 w2 hO2 hb2)
  clear hcv
  have HB2 := Lib.hid (HB1.out.trans hb2.out)
  clear hb2
  go_loopw [3] (fun b wr => ∃ z : Nat, z ≤ P ∧ Hid (Below w.heap.size w wr) ∧ Hid (OwnB w.heap.size b (S ++ [128] ++ zr z) wr)) (fun b _ => P - (lenOf b - (s.size + 1)))
  case atStart => exact ⟨0, by omega, HB2.out, show OwnB _ _ _ _ from by simpa [zr] using hO2.out⟩
  case round =>
    clear HB2 hO2
    obtain ⟨z, hz, hB, hO⟩ := hrel
    obtain ⟨xs, hxs⟩ : ∃ xs, xs = S ++ [128] ++ zr z := ⟨_, rfl⟩
    rw [← hxs] at hO
    have hxl : xs.length = s.size + 1 + z := by rw [hxs]; simp [zr_length, HSL.out]; omega
    have HXS := Lib.hid hxs
    obtain ⟨N, hN⟩ : ∃ N, N = xs.length := ⟨_, rfl⟩
    obtain ⟨g, cap, rfl⟩ := hO.out.shapeN hN.symm
    have hNz : N = s.size + 1 + z := by omega
    have HN := Lib.hid hN
    clear hN hxs hxl
    by_cases hlt : z < P
    · have hne : ¬ ((N : Int) % 64 = 56) := by have := HPC.out z hlt; omega
      have hNm : (N : Int) ≤ 140737488355300 := by omega
      have HNZ := Lib.hid hNz
      clear hNz
      go_wp2_with ((at_builtin; go_loud (refine wpList_app_byte rfl (.tmp 15) (.tmp 16) rfl w.heap.size _ xs (by rfl) hO.out 0 _ (by rfl) (by rfl) _ (by have := HN.out; omega) ?_)); intro v3 w3 hO3 hb3)
      go_roundw
      case rel => exact ⟨z + 1, by omega, hB.out.trans hb3.out, by have := hO3.out; rw [HXS.out, List.append_assoc, show zr z ++ [0] = zr (z + 1) from (zr_add z 1).symm] at this; exact this⟩
      case measure => rw [hO3.out.lenOf, List.length_append, ← HN.out, HNZ.out]; simp [lenOf]; omega
    · obtain rfl : z = P := by omega
      have hne : ((N : Int) % 64 = 56) := by omega
      have hNm : N ≤ 140737488355300 := by omega
      clear hNz
      obtain ⟨bits, hbits⟩ : ∃ b, b = s.size * 8 := ⟨_, rfl⟩
      have hbe : (s.size : Int) * 8 = (bits : Int) := by omega
      have hbm : s.size * 8 ≤ 18446744073709551615 := by omega
      have HBITS := Lib.hid hbits
      have hsz9 : s.size ≤ 140737488355300 := by omega
      clear hbits
      go_wp2
      obtain ⟨Z, hZ⟩ : ∃ Z, Z = xs := ⟨_, rfl⟩
      have hO0 : Hid (OwnB w.heap.size (.slice (some ⟨g, 0, none⟩) N cap) (xs ++ padB bits (8 - 8)) wr) := show OwnB _ _ _ _ from by simpa [padB] using hO.out
      have HB0 := hB
      clear hO hB hZ hne
      go_loopw [3, 5] (fun b i wr => ∃ j : Nat, j ≤ 8 ∧ i = .int .i64 ((j : Int) - 1) ∧ Hid (Below w.heap.size w wr) ∧ Hid (OwnB w.heap.size b (xs ++ padB bits (8 - j)) wr)) (fun _ i _ => (intOf i + 1).toNat)
      case atStart => exact ⟨8, by omega, rfl, HB0.out, hO0.out⟩
      case round =>
        clear HB0 hO0
        obtain ⟨j, hj, rfl, hB, hO⟩ := hrel
        cases j with
        | succ k =>
          rw [show (((k + 1 : Nat) : Int) - 1) = (k : Int) by omega]
          have hk0 : (0 : Int) ≤ k := by omega
          have hk1 : (0 : Int) ≤ 8 * k := by omega
          have hk2 : (k : Int) ≤ 7 := by omega
          have e1 : IntKind.i64.wrap (8 * (k : Int)) = 8 * k := IntWalk.i64_in _ (by omega)
          have e2 : (8 * (k : Int)).toNat = 8 * k := by omega
          have hlen : (xs ++ padB bits (8 - (k + 1))).length + 1 ≤ 140737488355328 := by rw [List.length_append, padB_length, ← HN.out]; omega
          have HLN := Lib.hid hlen
          clear hlen
          go_wp2_with ((at_builtin; go_loud (refine wpList_app_byte rfl (.tmp 26) (.tmp 32) rfl w.heap.size _ _ (by rfl) hO.out (UInt8.ofNat (bits / 2 ^ (8 * k) % 256)) _ (byte_cast bits (8 * k)) (by rfl) _ HLN.out ?_)); intro v3 w3 hO3 hb3)
          go_roundw
          case rel => exact ⟨k, by omega, by go_num, hB.out.trans hb3.out, by
            have := hO3.out
            rw [List.append_assoc, show padB bits (8 - (k + 1)) ++ [UInt8.ofNat (bits / 2 ^ (8 * k) % 256)] = padB bits (8 - k) by
              rw [show 8 - k = (8 - (k + 1)) + 1 by omega, padB, show 7 - (8 - (k + 1)) = k by omega]] at this
            exact this⟩
          case measure => simp [intOf]
        | zero =>
          go_wp2
          go_ret
          refine ⟨_, rfl, ?_, hB.out⟩
          have := hO.out
          rw [HXS.out, HBITS.out, HP.out] at this
          unfold pad
          rw [HSL.out]
          exact this
end Go.Proofs.YtbeooeihedhabaaDoor
