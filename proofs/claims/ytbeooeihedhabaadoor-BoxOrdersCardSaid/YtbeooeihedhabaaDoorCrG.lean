/- crate.Sum, cavalcaderef08.Sum: the calls compute CRC-32. crate.pack, crate.unpack, cavalcaderef08.Way: what the calls do. cavalcaderef08.Head: what the call does. cavalcaderef08.Pack: what the call does. crate.Pack's closure: what the call does. crate.Pack: what the call does. -/
import Derived.Test.YtbeooeihedhabaaDoorCrA
import Derived.Test.YtbeooeihedhabaaDoorCSum
import Derived.Test.YtbeooeihedhabaaDoorProg
import Derived.Deep.LoopGhost
import Derived.WalkMore
import Derived.Test.YtbeooeihedhabaaDoorCrC
import Derived.Test.YtbeooeihedhabaaDoorCrE
import Derived.Test.YtbeooeihedhabaaDoorCrF
import Derived.Outline
import Derived.Deep.Cut
namespace Go.Proofs.YtbeooeihedhabaaDoor
open Go.RowKit
set_option maxHeartbeats 2000000
set_option maxRecDepth 4000
theorem rpk_size {s : ByteArray} (hs : s.size ≤ 32768) : (bstr (rpk s.data.toList)).size ≤ 65536 := by
  have h := (rpk_len128 _ s.data.toList (Nat.le_refl _)).1
  have hl : s.data.toList.length = s.size := rfl
  rw [bstr_size]
  omega
theorem pack_any (k : Nat) (s : ByteArray) (w : World) (hk : k ≤ 3) (hs : s.size ≤ 32768) :
    Calls Tryd.prog 61 #[.int .i64 k, .string s] w fun e w' => e = .returned (.string (bstr (wayL k s.data.toList))) ∧ Below w.heap.size w w' := by
  have hr := fun w => rpack_any s w (by omega)
  have hw := fun w => wpack_any s w (by omega)
  have hw3 := fun w => wpack_any (bstr (rpk s.data.toList)) w (rpk_size hs)
  match k, hk with
  | 0, _ =>
    go_enter Tryd.func61, Tryd.ntmps61
    go_wp2_with fail
    go_ret
    exact ⟨rfl, Below.refl _ _⟩
  | 1, _ =>
    go_enter Tryd.func61, Tryd.ntmps61
    go_wp2_with fail
    refine (hr _).mono ?_
    rintro e w1 ⟨rfl, hb1⟩
    go_wp2_with fail
    go_ret
    exact ⟨rfl, hb1⟩
  | 2, _ =>
    go_enter Tryd.func61, Tryd.ntmps61
    go_wp2_with fail
    refine (hw _).mono ?_
    rintro e w1 ⟨rfl, hb1⟩
    go_wp2_with fail
    go_ret
    exact ⟨rfl, hb1⟩
  | 3, _ =>
    go_enter Tryd.func61, Tryd.ntmps61
    go_wp2_with fail
    refine (hr _).mono ?_
    rintro e w1 ⟨rfl, hb1⟩
    go_wp2_with fail
    refine (hw3 _).mono ?_
    rintro e w2 ⟨rfl, hb2⟩
    have hb := bw_call hb1 hb2
    go_wp2_with fail
    go_ret
    exact ⟨rfl, hb⟩
theorem way_any (k : Nat) (s : ByteArray) (w : World) (hk : k ≤ 3) (hs : s.size ≤ 32768) :
    Calls Tryd.prog 22 #[.int .i64 k, .string s] w fun e w' => e = .returned (.string (bstr (wayL k s.data.toList))) ∧ Below w.heap.size w w' := by
  have hr := fun w => rpack6_any s w (by omega)
  have hw := fun w => rwpack7_any s w (by omega)
  have hw3 := fun w => rwpack7_any (bstr (rpk s.data.toList)) w (rpk_size hs)
  match k, hk with
  | 0, _ =>
    go_enter Tryd.func22, Tryd.ntmps22
    go_wp2_with fail
    go_ret
    exact ⟨rfl, Below.refl _ _⟩
  | 1, _ =>
    go_enter Tryd.func22, Tryd.ntmps22
    go_wp2_with fail
    refine (hr _).mono ?_
    rintro e w1 ⟨rfl, hb1⟩
    go_wp2_with fail
    go_ret
    exact ⟨rfl, hb1⟩
  | 2, _ =>
    go_enter Tryd.func22, Tryd.ntmps22
    go_wp2_with fail
    refine (hw _).mono ?_
    rintro e w1 ⟨rfl, hb1⟩
    go_wp2_with fail
    go_ret
    exact ⟨rfl, hb1⟩
  | 3, _ =>
    go_enter Tryd.func22, Tryd.ntmps22
    go_wp2_with fail
    refine (hr _).mono ?_
    rintro e w1 ⟨rfl, hb1⟩
    go_wp2_with fail
    refine (hw3 _).mono ?_
    rintro e w2 ⟨rfl, hb2⟩
    have hb := bw_call hb1 hb2
    go_wp2_with fail
    go_ret
    exact ⟨rfl, hb⟩
theorem unW_nat (s : ByteArray) (m : Nat) : unW s (m : Int) = unV (uwin8 s.data.toList m) := by
  rw [unW, if_neg (by omega), Int.toNat_natCast]
  rfl
theorem unR_nat (s : ByteArray) (m : Nat) : unR s (m : Int) = unV (urun s.data.toList [] m) := by
  rw [unR, if_neg (by omega), Int.toNat_natCast]
theorem unpack8_any (k : Nat) (s : ByteArray) (m : Nat) (w : World) (hk : k ≤ 3) (hs : s.size ≤ 140737488351232) (hm : m ≤ 32768) :
    Calls Tryd.prog 70 #[.int .i64 k, .string s, .int .i64 m] w fun e w' => e = .returned (unV (unpL k s.data.toList m)) ∧ Below w.heap.size w w' := by
  have hr := fun w => unpack_any s m w hs (by omega)
  have hw := fun w => wunpack_any s m w hs (by omega)
  have hw3 := fun w => wunpack_any s (33068 : Nat) w hs (by omega)
  rw [unR_nat] at hr
  rw [unW_nat] at hw hw3
  match k, hk with
  | 0, _ =>
    go_enter Tryd.func70, Tryd.ntmps70
    go_wp2_with fail
    go_ret2
    exact ⟨rfl, Below.refl _ _⟩
  | 1, _ =>
    have hu : unpL 1 s.data.toList m = urun s.data.toList [] m := rfl
    rw [hu]
    cases hx : urun s.data.toList [] m with
    | error e =>
      rw [hx] at hr
      go_enter Tryd.func70, Tryd.ntmps70
      go_wp2_with fail
      refine (hr _).mono ?_
      rintro e w1 ⟨rfl, hb1⟩
      simp only [unV]
      go_wp2_with fail
      go_ret2
      exact ⟨rfl, hb1⟩
    | ok t =>
      rw [hx] at hr
      go_enter Tryd.func70, Tryd.ntmps70
      go_wp2_with fail
      refine (hr _).mono ?_
      rintro e w1 ⟨rfl, hb1⟩
      simp only [unV]
      go_wp2_with fail
      go_ret2
      exact ⟨rfl, hb1⟩
  | 2, _ =>
    have hu : unpL 2 s.data.toList m = uwin8 s.data.toList m := rfl
    rw [hu]
    cases hx : uwin8 s.data.toList m with
    | error e =>
      rw [hx] at hw
      go_enter Tryd.func70, Tryd.ntmps70
      go_wp2_with fail
      refine (hw _).mono ?_
      rintro e w1 ⟨rfl, hb1⟩
      simp only [unV]
      go_wp2_with fail
      go_ret2
      exact ⟨rfl, hb1⟩
    | ok t =>
      rw [hx] at hw
      go_enter Tryd.func70, Tryd.ntmps70
      go_wp2_with fail
      refine (hw _).mono ?_
      rintro e w1 ⟨rfl, hb1⟩
      simp only [unV]
      go_wp2_with fail
      go_ret2
      exact ⟨rfl, hb1⟩
  | 3, _ =>
    cases hx : uwin8 s.data.toList 33068 with
    | error e =>
      have hu : unpL 3 s.data.toList m = .error e := by simp only [unpL, hx]
      have he : (e != 0) = true := by
        rcases uwin8_err hx with rfl | rfl | rfl <;> decide
      rw [hu]
      rw [hx] at hw3
      go_enter Tryd.func70, Tryd.ntmps70
      go_wp2_with fail
      refine (hw3 _).mono ?_
      rintro e w1 ⟨rfl, hb1⟩
      simp only [unV]
      go_wp2_with fail
      go_ret2
      exact ⟨rfl, hb1⟩
    | ok t =>
      have hu : unpL 3 s.data.toList m = urun t [] m := by simp only [unpL, hx]
      have hr3 := fun w => unpack_any (bstr t) m w (by have := uwin8_len hx; rw [bstr_size]; omega) (by omega)
      rw [unR_nat, bstr_toList] at hr3
      rw [hu]
      rw [hx] at hw3
      cases hy : urun t [] m with
      | error e =>
        rw [hy] at hr3
        go_enter Tryd.func70, Tryd.ntmps70
        go_wp2_with fail
        refine (hw3 _).mono ?_
        rintro e w1 ⟨rfl, hb1⟩
        simp only [unV]
        go_wp2_with fail
        refine (hr3 _).mono ?_
        rintro e w2 ⟨rfl, hb2⟩
        have hb := bw_call hb1 hb2
        simp only [unV]
        go_wp2_with fail
        go_ret2
        exact ⟨rfl, hb⟩
      | ok z =>
        rw [hy] at hr3
        go_enter Tryd.func70, Tryd.ntmps70
        go_wp2_with fail
        refine (hw3 _).mono ?_
        rintro e w1 ⟨rfl, hb1⟩
        simp only [unV]
        go_wp2_with fail
        refine (hr3 _).mono ?_
        rintro e w2 ⟨rfl, hb2⟩
        have hb := bw_call hb1 hb2
        simp only [unV]
        go_wp2_with fail
        go_ret2
        exact ⟨rfl, hb⟩
open Go.RowKit
set_option maxHeartbeats 2000000
set_option maxRecDepth 4000
theorem conv_be32 {x : Nat} (hxl : x < 4294967296) (W : World) : (convert 48 9 (.slice (some ⟨W.heap.size, 0, none⟩) 4 4)).run Tryd.prog (W.alloc (.cells #[.int .u8 ((x : Int) / 16777216), .int .u8 ((x : Int) / 65536 % 256), .int .u8 ((x : Int) / 256 % 256), .int .u8 ((x : Int) % 256)] 5)) = .ok (.string (bstr (be32 x))) (W.alloc (.cells #[.int .u8 ((x : Int) / 16777216), .int .u8 ((x : Int) / 65536 % 256), .int .u8 ((x : Int) / 256 % 256), .int .u8 ((x : Int) % 256)] 5)) := by
  refine conv_new (t := 5) (be32 x) Tryd.underlying48 Tryd.underlying5 Tryd.underlying9 rfl fun i hi => ?_
  match i, hi with
  | 0, _ => simp [u8s, be32]; omega
  | 1, _ => simp [u8s, be32]
  | 2, _ => simp [u8s, be32]
  | 3, _ => simp [u8s, be32]
theorem head_any (k : Nat) (s : ByteArray) (w : World) (hk : k ≤ 3) (hs : s.size ≤ 1073741824) :
    Calls Tryd.prog 21 #[.int .i64 k, .string s] w fun e w' => e = .returned (.string (bstr (headL k s.data.toList))) ∧ Below w.heap.size w w' := by
  have hnum := fun w => rnumber_any (s.size : Int) w (by omega) (by omega)
  have hsum := fun w => rsum8_any s w (by omega)
  obtain ⟨x, hx⟩ : ∃ x, x = crc s.data.toList := ⟨_, rfl⟩
  have hxl : x < 4294967296 := by rw [hx]; exact crc_lt _
  rw [← hx] at hsum
  have HX := Lib.hid hx
  have HK : Hid (k < 256) := show k < 256 from by omega
  rw [Int.toNat_natCast] at hnum
  obtain ⟨S1, hS1⟩ : ∃ S, S = bstr [UInt8.ofNat k] := ⟨_, rfl⟩
  obtain ⟨S2, hS2⟩ : ∃ S, S = bstr (numEnc s.size) := ⟨_, rfl⟩
  obtain ⟨S3, hS3⟩ : ∃ S, S = bstr (be32 x) := ⟨_, rfl⟩
  obtain ⟨S12, h12⟩ : ∃ S, S1 ++ S2 = S := ⟨_, rfl⟩
  obtain ⟨S123, h123⟩ : ∃ S, S12 ++ S3 = S := ⟨_, rfl⟩
  have hn9 : (numEnc s.size).length ≤ 9 := by
    have := numB_length_le 8 s.size (by omega)
    rw [numEnc_length]; omega
  have z2 : S2.size ≤ 9 := by rw [hS2]; exact hn9
  have z1 : S1.size = 1 := by rw [hS1]; rfl
  have z3 : S3.size = 4 := by rw [hS3]; rfl
  have hz1 : S1.size + S2.size ≤ 9223372036854775807 := by omega
  have hz2 : S12.size + S3.size ≤ 9223372036854775807 := by rw [← h12, ByteArray.size_append]; omega
  have HR : Hid (S123 = bstr (headL k s.data.toList)) := show _ = _ from by
    have hl : s.data.toList.length = s.size := rfl
    rw [← h123, ← h12, hS1, hS2, hS3, bstr_append, bstr_append, hx, headL, hl]
    simp
  rw [← HR.out]
  rw [← hS2] at hnum
  have hc1 : ∀ W : World, (convert 48 9 (.slice (some ⟨W.heap.size, 0, none⟩) 1 1)).run Tryd.prog (W.alloc (.cells #[.int .u8 (k : Int)] 5)) = .ok (.string S1) (W.alloc (.cells #[.int .u8 (k : Int)] 5)) := fun W => by
    rw [hS1]
    refine conv_new (t := 5) (cs := #[.int .u8 (k : Int)]) [UInt8.ofNat k] Tryd.underlying48 Tryd.underlying5 Tryd.underlying9 rfl fun i hi => ?_
    have : i = 0 := by omega
    subst this
    simp [u8s]
    omega
  have hc2 : ∀ W : World, (convert 48 9 (.slice (some ⟨W.heap.size + 1, 0, none⟩) 4 4)).run Tryd.prog ((W.alloc (.cells #[.int .u8 (k : Int)] 5)).alloc (.cells #[.int .u8 ((x : Int) / 16777216), .int .u8 ((x : Int) / 65536 % 256), .int .u8 ((x : Int) / 256 % 256), .int .u8 ((x : Int) % 256)] 5)) = .ok (.string S3) ((W.alloc (.cells #[.int .u8 (k : Int)] 5)).alloc (.cells #[.int .u8 ((x : Int) / 16777216), .int .u8 ((x : Int) / 65536 % 256), .int .u8 ((x : Int) / 256 % 256), .int .u8 ((x : Int) % 256)] 5)) := fun W => by
    rw [hS3]
    have hsz : (W.alloc (.cells #[.int .u8 (k : Int)] 5)).heap.size = W.heap.size + 1 := by simp
    rw [← hsz]
    exact conv_be32 hxl (W.alloc (.cells #[.int .u8 (k : Int)] 5))
  clear hx hS1 hS2 hS3 z1 z2 z3 hn9
  go_enter Tryd.func21, Tryd.ntmps21
  go_wp2_with fail
  refine (hnum _).mono ?_
  rintro e w1 ⟨rfl, hb1⟩
  go_wp2_with fail
  refine (hsum _).mono ?_
  rintro e w2 ⟨rfl, rfl⟩
  have HB2 := Lib.hid (bw_alloc (bw_alloc hb1 (.cells #[.int .u8 (k : Int)] 5)) (.cells #[.int .u8 ((x : Int) / 16777216), .int .u8 ((x : Int) / 65536 % 256), .int .u8 ((x : Int) / 256 % 256), .int .u8 ((x : Int) % 256)] 5))
  go_wp2_with fail
  go_ret
  exact ⟨rfl, HB2.out⟩
open Go.RowKit
set_option maxHeartbeats 2000000
set_option maxRecDepth 4000
/-- what Pack tells -/
def packV (s : ByteArray) : Value := if 32768 < s.size then .tuple #[.string ByteArray.empty, .int .i64 3] else .tuple #[.string (bstr (packL s.data.toList)), .int .i64 0]
theorem rpack8_any (s : ByteArray) (w : World) (hs : s.size ≤ 140737488355328) :
    Calls Tryd.prog 31 #[.string s] w fun e w' => e = .returned (packV s) ∧ Below w.heap.size w w' := by
  by_cases hbig : 32768 < s.size
  · have d0 : decide (32768 < (s.size : Int)) = true := decide_eq_true (by omega)
    rw [packV, if_pos hbig]
    clear hbig
    go_enter Tryd.func31, Tryd.ntmps31
    go_wp2_with fail
    go_ret2
    exact ⟨rfl, Below.refl _ _⟩
  · have d0 : decide (32768 < (s.size : Int)) = false := decide_eq_false (by omega)
    rw [packV, if_neg hbig]
    obtain ⟨L, hL⟩ : ∃ L, L = s.data.toList := ⟨_, rfl⟩
    have hLs : L.length = s.size := by rw [hL]; rfl
    have hway := fun k w h => way_any k s w h (by omega)
    have hhead := fun k w h => head_any k s w h (by omega)
    rw [← hL] at hway hhead ⊢
    have HW := Lib.hid hway
    have HH := Lib.hid hhead
    have hb32 : s.size ≤ 32768 := by omega
    have HS : Hid (bstr L = s) := show _ = _ from by rw [hL]; rfl
    have HLs := Lib.hid hLs
    clear hway hhead hbig hL hLs
    go_enter Tryd.func31, Tryd.ntmps31
    go_wp2_with fail
    go_loopg [4, 5, 6] 3 (fun gk wy bs i wr => ∃ (k n : Nat) (B : ByteArray), k + gk = 3 ∧ n ≤ 3 ∧ i = .int .i64 (k + 1 : Nat) ∧ wy = .int .i64 n ∧ bs = .string B ∧ Hid (bestW L k = (n, B.data.toList)) ∧ Hid (Below w.heap.size w wr))
    case atStart => exact ⟨0, 0, s, by omega, by omega, rfl, rfl, rfl, show _ = _ from by rw [← HS.out]; rfl, Below.refl _ _⟩
    case round =>
      obtain ⟨k, n, B, hk, hn3, rfl, rfl, rfl, HBW, HB⟩ := hrel
      obtain ⟨k1, hk1⟩ : ∃ x, x = k + 1 := ⟨_, rfl⟩
      rw [← hk1]
      by_cases hlt : k1 ≤ 3
      · have d1 : decide ((k1 : Int) ≤ 3) = true := decide_eq_true (by omega)
        have e1 : IntKind.i64.wrap ((k1 : Int) + 1) = ((k1 + 1 : Nat) : Int) := by rw [IntWalk.i64_in _ (by omega)]; omega
        obtain ⟨T, hT⟩ : ∃ T, T = bstr (wayL k1 L) := ⟨_, rfl⟩
        have hc := Lib.hid (HW.out k1 wr hlt)
        rw [← hT] at hc
        have HT := Lib.hid hT
        have HK1 := Lib.hid hk1
        have hk1b : k1 ≤ k + 1 := by omega
        have hk1c : k + 1 ≤ k1 := by omega
        by_cases hsh : T.size < B.size
        · have d2 : decide ((T.size : Int) < B.size) = true := decide_eq_true (by omega)
          have d2' : decide (T.size < B.size) = true := decide_eq_true hsh
          have HN : Hid (bestW L k1 = (k1, T.data.toList)) := show _ = _ from by
            rw [HK1.out, bestW, HBW.out, ← HK1.out]
            have h1 : T.data.toList = wayL k1 L := by rw [HT.out]; rfl
            rw [← h1, if_pos (show T.data.toList.length < (n, B.data.toList).2.length from hsh)]
          clear hT hk1
          go_wp2_with fail
          refine (hc.out).mono ?_
          rintro e w2 ⟨rfl, hb2⟩
          have HB2 := Lib.hid (bw_call HB.out hb2)
          clear hb2
          go_wp2_with fail
          go_roundg (gk - 1)
          case measure => omega
          case rel => exact ⟨k1, k1, T, by omega, by omega, rfl, rfl, rfl, HN, HB2⟩
        · have d2 : decide ((T.size : Int) < B.size) = false := decide_eq_false (by omega)
          have d2' : decide (T.size < B.size) = false := decide_eq_false hsh
          have HN : Hid (bestW L k1 = (n, B.data.toList)) := show _ = _ from by
            rw [HK1.out, bestW, HBW.out, ← HK1.out]
            have h1 : T.data.toList = wayL k1 L := by rw [HT.out]; rfl
            rw [← h1, if_neg (show ¬ T.data.toList.length < (n, B.data.toList).2.length from hsh)]
          clear hT hk1
          go_wp2_with fail
          refine (hc.out).mono ?_
          rintro e w2 ⟨rfl, hb2⟩
          have HB2 := Lib.hid (bw_call HB.out hb2)
          clear hb2
          go_wp2_with fail
          go_roundg (gk - 1)
          case measure => omega
          case rel => exact ⟨k1, n, B, by omega, by omega, rfl, rfl, rfl, HN, HB2⟩
      · have d1 : decide ((k1 : Int) ≤ 3) = false := decide_eq_false (by omega)
        obtain rfl : k = 3 := by omega
        obtain ⟨Hd, hHd⟩ : ∃ Hd, Hd = bstr (headL n L) := ⟨_, rfl⟩
        have hh := Lib.hid (HH.out n wr hn3)
        rw [← hHd] at hh
        obtain ⟨R, hR⟩ : ∃ R, Hd ++ B = R := ⟨_, rfl⟩
        have HRR : Hid (R = bstr (packL L)) := show _ = _ from by
          rw [← hR, hHd, packL, HBW.out, ← bstr_append]
          rfl
        have hz : Hd.size + B.size ≤ 9223372036854775807 := by
          have h1 := (bestW_is L 3).2.2
          rw [HBW.out] at h1
          have h2 := HLs.out
          have h3 : B.data.toList.length = B.size := rfl
          have h4 := numB_length_le 8 L.length (by omega)
          simp only at h1
          rw [hHd, bstr_size, headL, List.length_cons, List.length_append, be32_length, numEnc_length]
          omega
        clear hHd hk1
        go_wp2_with fail
        refine (hh.out).mono ?_
        rintro e w2 ⟨rfl, hb2⟩
        have HB2 := Lib.hid (bw_call HB.out hb2)
        clear hb2
        go_wp2_with fail
        go_ret2
        exact ⟨by rw [← HRR.out]; rfl, HB2.out⟩
open Go.RowKit
set_option maxHeartbeats 2000000
set_option maxRecDepth 4000
/-- the closure's cells: the text, the way, the best -/
structure CrAt (N : Nat) (w W : World) (b1 b4 b5 : Nat) (s : ByteArray) (n : Nat) (B : ByteArray) : Prop where
  s : W.heap[b1]? = some (.cells #[.string s] 9 (0, 0))
  way : W.heap[b4]? = some (.cells #[.int .i64 n] 3 (0, 0))
  best : W.heap[b5]? = some (.cells #[.string B] 9 (0, 0))
  ne : b1 ≠ b5
  lo : N ≤ b1 ∧ N ≤ b4 ∧ N ≤ b5
  below : Below N w W
theorem CrAt.next {N : Nat} {w W W' : World} {b1 b4 b5 : Nat} {s B : ByteArray} {n : Nat} (h : CrAt N w W b1 b4 b5 s n B) (hb : Below W.heap.size W W') : CrAt N w W' b1 b4 b5 s n B :=
  ⟨keep_row hb h.s, keep_row hb h.way, keep_row hb h.best, h.ne, h.lo, h.below.trans (hb.mono (by have := block_lt h.s; have := h.lo; omega))⟩
theorem CrAt.set {N : Nat} {w W : World} {b1 b4 b5 : Nat} {s B : ByteArray} {n : Nat} (h : CrAt N w W b1 b4 b5 s n B) (k : Nat) (T : ByteArray) : CrAt N w ((W.setCell ⟨b4, 0, none⟩ (.int .i64 k)).setCell ⟨b5, 0, none⟩ (.string T)) b1 b4 b5 s k T := by
  have h45 : b4 ≠ b5 := ne_of_types h.way h.best (by decide)
  have h14 : b1 ≠ b4 := ne_of_types h.s h.way (by decide)
  have a1 := set_row (i := 0) (cs := [.int .i64 (n : Int)]) h.way (.int .i64 (k : Int))
  have a5 : (W.setCell ⟨b4, 0, none⟩ (.int .i64 k)).heap[b5]? = some (.cells [Value.string B].toArray 9 (0, 0)) := (heap_setCell_other _ _ _ _ (Ne.symm h45)).trans h.best
  refine ⟨(heap_setCell_other _ _ _ _ h.ne).trans ((heap_setCell_other _ _ _ _ h14).trans h.s), (heap_setCell_other _ _ _ _ h45).trans a1, set_row (i := 0) a5 (.string T), h.ne, h.lo, h.below.trans ⟨rfl, rfl, rfl, by simp [World.setCell], fun j hj => ?_⟩⟩
  have := h.lo
  exact (heap_setCell_other _ _ _ _ (by show j ≠ b5; omega)).trans (heap_setCell_other _ _ _ _ (by show j ≠ b4; omega))
theorem try_any (N : Nat) (w0 : World) (b1 b4 b5 : Nat) (s B : ByteArray) (n k : Nat) (w : World) (h : CrAt N w0 w b1 b4 b5 s n B) (hk : k ≤ 3) (hs : s.size ≤ 32768) :
    Calls Tryd.prog 60 #[.int .i64 k, .pointer (some ⟨b1, 0, none⟩), .pointer (some ⟨b5, 0, none⟩), .pointer (some ⟨b4, 0, none⟩)] w fun e w' => e = .returned (.tuple #[]) ∧ ∃ n' B', (n', B'.data.toList) = (if (wayL k s.data.toList).length < B.data.toList.length then (k, wayL k s.data.toList) else (n, B.data.toList)) ∧ CrAt N w0 w' b1 b4 b5 s n' B' := by
  obtain ⟨T, hT⟩ : ∃ T, T = bstr (wayL k s.data.toList) := ⟨_, rfl⟩
  have hp := fun w => pack_any k s w hk hs
  rw [← hT] at hp
  have hT2 : wayL k s.data.toList = T.data.toList := by rw [hT]; rfl
  rw [hT2]
  have HP := Lib.hid hp
  have HA := Lib.hid h
  have c1 := cell_of_one h.s
  clear h hp hT hT2
  by_cases hsh : T.size < B.size
  · have d2 : decide ((T.size : Int) < B.size) = true := decide_eq_true (by omega)
    have d2' : decide (T.size < B.size) = true := decide_eq_true hsh
    rw [if_pos (show T.data.toList.length < B.data.toList.length from hsh)]
    go_enter Tryd.func60, Tryd.ntmps60
    go_wp2_with fail
    refine (HP.out _).mono ?_
    rintro e w2 ⟨rfl, hb2⟩
    have HA2 := Lib.hid (HA.out.next hb2)
    have HA3 := Lib.hid (HA2.out.set k T)
    have c5 := cell_of_one HA2.out.best
    have c4 := cell_of_one HA2.out.way
    have z4 : w2.frozen? ⟨b4, 0, none⟩ = false := frozen_of_row w2 b4 0 _ _ HA2.out.way
    have z5 : (w2.setCell ⟨b4, 0, none⟩ (.int .i64 k)).frozen? ⟨b5, 0, none⟩ = false := by
      rw [World.frozen?_setCell]
      exact frozen_of_row w2 b5 0 _ _ HA2.out.best
    have c5' : (w2.setCell ⟨b4, 0, none⟩ (.int .i64 k)).cell? ⟨b5, 0, none⟩ = some (.string B) := (World.cell?_of_block (a := ⟨b5, 0, none⟩) (heap_setCell_other _ _ _ _ (ne_of_types HA2.out.best HA2.out.way (by decide)))).trans c5
    clear hb2 c1
    go_wp2_with fail
    go_end0
    exact ⟨rfl, k, T, rfl, HA3.out⟩
  · have d2 : decide ((T.size : Int) < B.size) = false := decide_eq_false (by omega)
    have d2' : decide (T.size < B.size) = false := decide_eq_false hsh
    rw [if_neg (show ¬ T.data.toList.length < B.data.toList.length from hsh)]
    go_enter Tryd.func60, Tryd.ntmps60
    go_wp2_with fail
    refine (HP.out _).mono ?_
    rintro e w2 ⟨rfl, hb2⟩
    have HA2 := Lib.hid (HA.out.next hb2)
    have c5 := cell_of_one HA2.out.best
    clear hb2 c1
    go_wp2_with fail
    go_end0
    exact ⟨rfl, n, B, rfl, HA2.out⟩
open Go.RowKit
set_option maxHeartbeats 2000000
set_option maxRecDepth 4000
theorem best_step {L : List UInt8} {k n n' : Nat} {B B' : ByteArray} (h0 : k = 0 → B.data.toList = L ∧ n = 0) (h : bestW L (k - 1) = (n, B.data.toList)) (he : (n', B'.data.toList) = (if (wayL k L).length < B.data.toList.length then (k, wayL k L) else (n, B.data.toList))) : bestW L k = (n', B'.data.toList) := by
  rw [he]
  cases k with
  | zero =>
    obtain ⟨h1, rfl⟩ := h0 rfl
    rw [if_neg (by rw [h1]; show ¬ L.length < L.length; omega)]
    exact h
  | succ k =>
    rw [Nat.add_sub_cancel] at h
    rw [bestW, h]
theorem crat_one (w : World) (s : ByteArray) : CrAt w.heap.size w (((w.alloc (.cells #[.string s] 9)).alloc (.cells #[.string s] 9)).alloc (.cells #[.int .i64 (0 : Nat)] 3)).drew w.heap.size (w.heap.size + 1 + 1) (w.heap.size + 1) s 0 s := by
  obtain ⟨w1, h1⟩ : ∃ w1, w1 = w.alloc (.cells #[.string s] 9) := ⟨_, rfl⟩
  obtain ⟨w2, h2⟩ : ∃ w2, w2 = w1.alloc (.cells #[.string s] 9) := ⟨_, rfl⟩
  obtain ⟨w3, h3⟩ : ∃ w3, w3 = w2.alloc (.cells #[.int .i64 (0 : Nat)] 3) := ⟨_, rfl⟩
  have s1 : w1.heap.size = w.heap.size + 1 := by rw [h1]; simp
  have s2 : w2.heap.size = w.heap.size + 1 + 1 := by rw [h2]; simp [s1]
  rw [← h1, ← h2, ← h3]
  have a1 : w1.heap[w.heap.size]? = some (.cells #[.string s] 9 (0, 0)) := by rw [h1]; exact heap_alloc_new w _
  have a2 : w2.heap[w.heap.size + 1]? = some (.cells #[.string s] 9 (0, 0)) := by rw [h2, ← s1]; exact heap_alloc_new w1 _
  have a3 : w3.heap[w.heap.size + 1 + 1]? = some (.cells #[.int .i64 (0 : Nat)] 3 (0, 0)) := by rw [h3, ← s2]; exact heap_alloc_new w2 _
  have o2 : ∀ k, k < w.heap.size + 1 → w2.heap[k]? = w1.heap[k]? := fun k hk => by rw [h2]; exact heap_alloc_old w1 _ (by omega)
  have o3 : ∀ k, k < w.heap.size + 1 + 1 → w3.heap[k]? = w2.heap[k]? := fun k hk => by rw [h3]; exact heap_alloc_old w2 _ (by omega)
  have hb := bw_alloc (bw_alloc (bw_alloc (Below.refl w.heap.size w) (.cells #[.string s] 9)) (.cells #[.string s] 9)) (.cells #[.int .i64 (0 : Nat)] 3)
  rw [← h1, ← h2, ← h3] at hb
  exact ⟨(o3 _ (by omega)).trans ((o2 _ (by omega)).trans a1), a3, (o3 _ (by omega)).trans a2, by omega, by omega, hb.drew⟩
theorem crat_two (w : World) (s : ByteArray) : CrAt w.heap.size w (((w.alloc (.cells #[.string s] 9)).alloc (.cells #[.int .i64 (0 : Nat)] 3)).alloc (.cells #[.string s] 9)).drew w.heap.size (w.heap.size + 1) (w.heap.size + 1 + 1) s 0 s := by
  obtain ⟨w1, h1⟩ : ∃ w1, w1 = w.alloc (.cells #[.string s] 9) := ⟨_, rfl⟩
  obtain ⟨w2, h2⟩ : ∃ w2, w2 = w1.alloc (.cells #[.int .i64 (0 : Nat)] 3) := ⟨_, rfl⟩
  obtain ⟨w3, h3⟩ : ∃ w3, w3 = w2.alloc (.cells #[.string s] 9) := ⟨_, rfl⟩
  have s1 : w1.heap.size = w.heap.size + 1 := by rw [h1]; simp
  have s2 : w2.heap.size = w.heap.size + 1 + 1 := by rw [h2]; simp [s1]
  rw [← h1, ← h2, ← h3]
  have a1 : w1.heap[w.heap.size]? = some (.cells #[.string s] 9 (0, 0)) := by rw [h1]; exact heap_alloc_new w _
  have a2 : w2.heap[w.heap.size + 1]? = some (.cells #[.int .i64 (0 : Nat)] 3 (0, 0)) := by rw [h2, ← s1]; exact heap_alloc_new w1 _
  have a3 : w3.heap[w.heap.size + 1 + 1]? = some (.cells #[.string s] 9 (0, 0)) := by rw [h3, ← s2]; exact heap_alloc_new w2 _
  have o2 : ∀ k, k < w.heap.size + 1 → w2.heap[k]? = w1.heap[k]? := fun k hk => by rw [h2]; exact heap_alloc_old w1 _ (by omega)
  have o3 : ∀ k, k < w.heap.size + 1 + 1 → w3.heap[k]? = w2.heap[k]? := fun k hk => by rw [h3]; exact heap_alloc_old w2 _ (by omega)
  have hb := bw_alloc (bw_alloc (bw_alloc (Below.refl w.heap.size w) (.cells #[.string s] 9)) (.cells #[.int .i64 (0 : Nat)] 3)) (.cells #[.string s] 9)
  rw [← h1, ← h2, ← h3] at hb
  exact ⟨(o3 _ (by omega)).trans ((o2 _ (by omega)).trans a1), (o3 _ (by omega)).trans a2, a3, by omega, by omega, hb.drew⟩
theorem cpack_any (s : ByteArray) (w : World) (hs : s.size ≤ 140737488355328) :
    Calls Tryd.prog 28 #[.string s] w fun e w' => e = .returned (packV s) ∧ Below w.heap.size w w' := by
  by_cases hbig : 32768 < s.size
  · have d0 : decide (32768 < (s.size : Int)) = true := decide_eq_true (by omega)
    have hb1 := bw_alloc (Below.refl w.heap.size w) (.cells #[.string s] 9)
    rw [packV, if_pos hbig]
    clear hbig
    go_enter Tryd.func28, Tryd.ntmps28
    go_wp2_with fail
    go_ret2
    exact ⟨rfl, hb1⟩
  · have d0 : decide (32768 < (s.size : Int)) = false := decide_eq_false (by omega)
    rw [packV, if_neg hbig]
    obtain ⟨L, hL⟩ : ∃ L, L = s.data.toList := ⟨_, rfl⟩
    have hLs : L.length = s.size := by rw [hL]; rfl
    have hnum := fun w => number_any (s.size : Int) w (by omega) (by omega)
    have hsum := fun w => csum_any s w (by omega)
    rw [Int.toNat_natCast] at hnum
    rw [← hL] at hsum ⊢
    obtain ⟨x, hx⟩ : ∃ x, x = crc L := ⟨_, rfl⟩
    have hxl : x < 4294967296 := by rw [hx]; exact crc_lt _
    rw [← hx] at hsum
    have HX := Lib.hid hx
    have HLs := Lib.hid hLs
    have HL := Lib.hid hL
    have hb32 : s.size ≤ 32768 := by omega
    have HNUM := Lib.hid hnum
    have HSUM := Lib.hid hsum
    clear hx hL hLs hbig hnum hsum
    have hh0 : (w.alloc (.cells #[.string s] 9)).heap[w.heap.size]? = some (.cells #[.string s] 9 (0, 0)) := heap_alloc_new w _
    have HH0 := Lib.hid hh0
    have HB0 := Lib.hid (bw_alloc (Below.refl w.heap.size w) (.cells #[.string s] 9))
    have hs0 : (w.alloc (.cells #[.string s] 9)).heap.size = w.heap.size + 1 := by simp
    have HS0 := Lib.hid hs0
    clear hh0 hs0
    go_enter Tryd.func28, Tryd.ntmps28
    go_upto_region 3 with fail
    go_cut [4, 5] (fun p q wx => ∃ b4 b5 : Nat, p = .pointer (some ⟨b4, 0, none⟩) ∧ q = .pointer (some ⟨b5, 0, none⟩) ∧ Hid (CrAt w.heap.size w wx w.heap.size b4 b5 s 0 s))
    case first =>
      have HA1 := Lib.hid (crat_one w s)
      have HA2 := Lib.hid (crat_two w s)
      go_region
      all_goals
        go_wp2_with fail
        go_meet
        case rel => first | exact ⟨_, _, rfl, rfl, HA1⟩ | exact ⟨_, _, rfl, rfl, HA2⟩
    case rest =>
      obtain ⟨b4, b5, rfl, rfl, HA⟩ := hcut
      generalize wc = w2 at *
      have HS0 : Hid (bestW L (0 - 1) = (0, s.data.toList)) := show _ = _ from by rw [HL.out]; rfl
      go_wp2_with fail
      go_loopg [16] 4 (fun gk i wr => ∃ (k n : Nat) (B : ByteArray), k + gk = 4 ∧ n ≤ 3 ∧ i = .int .i64 k ∧ Hid (k = 0 → B.data.toList = L ∧ n = 0) ∧ Hid (bestW L (k - 1) = (n, B.data.toList)) ∧ Hid (CrAt w.heap.size w wr w.heap.size b4 b5 s n B))
      case atStart => exact ⟨0, 0, s, by omega, by omega, rfl, show _ → _ from fun _ => ⟨HL.out.symm, rfl⟩, HS0, HA⟩
      case round =>
        obtain ⟨k, n, B, hkg, hn3, rfl, HZ, HBW, HCr⟩ := hrel
        by_cases hlt : k < 4
        · have d1 : decide ((k : Int) < 4) = true := decide_eq_true (by omega)
          have HC := Lib.hid (try_any w.heap.size w w.heap.size b4 b5 s B n k wr HCr.out (by omega) (by omega))
          go_wp2_with fail
          refine HC.out.mono ?_
          rintro e w3 ⟨rfl, n', B', he, hcr⟩
          rw [← HL.out] at he
          have HN := Lib.hid (best_step HZ.out HBW.out he)
          have hn' : n' ≤ 3 := by
            split at he
            · have := (Prod.mk.inj he).1; omega
            · have := (Prod.mk.inj he).1; omega
          have HCR := Lib.hid hcr
          clear he hcr
          go_wp2_with fail
          go_roundg (gk - 1)
          case measure => omega
          case rel => exact ⟨k + 1, n', B', by omega, hn', by go_num, show _ → _ from fun h => by omega, show bestW L (k + 1 - 1) = _ from HN.out, HCR⟩
        · have d1 : decide ((k : Int) < 4) = false := decide_eq_false (by omega)
          obtain rfl : k = 4 := by omega
          have c1 := cell_of_one HCr.out.s
          obtain ⟨S1, hS1⟩ : ∃ S, S = bstr [UInt8.ofNat n] := ⟨_, rfl⟩
          obtain ⟨S2, hS2⟩ : ∃ S, S = bstr (numEnc s.size) := ⟨_, rfl⟩
          obtain ⟨S3, hS3⟩ : ∃ S, S = bstr (be32 x) := ⟨_, rfl⟩
          obtain ⟨S12, h12⟩ : ∃ S, S1 ++ S2 = S := ⟨_, rfl⟩
          obtain ⟨S123, h123⟩ : ∃ S, S12 ++ S3 = S := ⟨_, rfl⟩
          obtain ⟨S1234, h1234⟩ : ∃ S, S123 ++ B = S := ⟨_, rfl⟩
          have hn9 : (numEnc s.size).length ≤ 9 := by
            have := numB_length_le 8 s.size (by omega)
            rw [numEnc_length]; omega
          have z2 : S2.size ≤ 9 := by rw [hS2]; exact hn9
          have z1 : S1.size = 1 := by rw [hS1]; rfl
          have z3 : S3.size = 4 := by rw [hS3]; rfl
          have zB : B.size ≤ s.size := by
            have h1 := (bestW_is L 3).2.2
            have h0 := HBW.out
            rw [show 4 - 1 = 3 from rfl] at h0
            rw [h0] at h1
            have h2 := HLs.out
            have h3 : B.data.toList.length = B.size := rfl
            simp only at h1
            omega
          have z12 : S12.size ≤ 10 := by rw [← h12, ByteArray.size_append]; omega
          have z123 : S123.size ≤ 14 := by rw [← h123, ByteArray.size_append]; omega
          have hz1 : S1.size + S2.size ≤ 9223372036854775807 := by omega
          have hz2 : S12.size + S3.size ≤ 9223372036854775807 := by omega
          have hz3 : S123.size + B.size ≤ 9223372036854775807 := by omega
          have HR : Hid (S1234 = bstr (packL L)) := show _ = _ from by
            have h0 := HBW.out
            rw [show 4 - 1 = 3 from rfl] at h0
            rw [← h1234, ← h123, ← h12, hS1, hS2, hS3, packL, h0, bstr_append, bstr_append, headL, HLs.out, ← HX.out, ← bstr_of B, bstr_append]
            simp [bstr_toList]
          have hc1 : ∀ W : World, (convert 48 9 (.slice (some ⟨W.heap.size, 0, none⟩) 1 1)).run Tryd.prog (W.alloc (.cells #[.int .u8 (n : Int)] 5)) = .ok (.string S1) (W.alloc (.cells #[.int .u8 (n : Int)] 5)) := fun W => by
            rw [hS1]
            refine conv_new (t := 5) (cs := #[.int .u8 (n : Int)]) [UInt8.ofNat n] Tryd.underlying48 Tryd.underlying5 Tryd.underlying9 rfl fun i hi => ?_
            have : i = 0 := by omega
            subst this
            simp [u8s]
            omega
          have hc2 : ∀ W : World, (convert 48 9 (.slice (some ⟨W.heap.size + 1, 0, none⟩) 4 4)).run Tryd.prog ((W.alloc (.cells #[.int .u8 (n : Int)] 5)).alloc (.cells #[.int .u8 ((x : Int) / 16777216), .int .u8 ((x : Int) / 65536 % 256), .int .u8 ((x : Int) / 256 % 256), .int .u8 ((x : Int) % 256)] 5)) = .ok (.string S3) ((W.alloc (.cells #[.int .u8 (n : Int)] 5)).alloc (.cells #[.int .u8 ((x : Int) / 16777216), .int .u8 ((x : Int) / 65536 % 256), .int .u8 ((x : Int) / 256 % 256), .int .u8 ((x : Int) % 256)] 5)) := fun W => by
            rw [hS3]
            have hsz : (W.alloc (.cells #[.int .u8 (n : Int)] 5)).heap.size = W.heap.size + 1 := by simp
            rw [← hsz]
            exact conv_be32 hxl (W.alloc (.cells #[.int .u8 (n : Int)] 5))
          have hnum2 := HNUM.out
          rw [← hS2] at hnum2
          have HN2 := Lib.hid hnum2
          clear hS1 hS2 hS3 z1 z2 z3 z12 z123 hn9 hnum2 zB
          go_wp2_with fail
          refine (HN2.out _).mono ?_
          rintro e w3 ⟨rfl, hb3⟩
          have HC3 := Lib.hid (HCr.out.next hb3)
          have c3 := cell_of_one HC3.out.s
          have c4 := cell_of_one HC3.out.way
          have HCA := Lib.hid ((HC3.out.next (bw_alloc (Below.refl _ _) (.cells #[.int .u8 (n : Int)] 5))).next (bw_alloc (Below.refl _ _) (.cells #[.int .u8 ((x : Int) / 16777216), .int .u8 ((x : Int) / 65536 % 256), .int .u8 ((x : Int) / 256 % 256), .int .u8 ((x : Int) % 256)] 5)))
          have c5 := cell_of_one HCA.out.best
          clear hb3 c1
          go_wp2_with fail
          refine (HSUM.out _).mono ?_
          rintro e w4 ⟨rfl, rfl⟩
          go_wp2_with fail
          go_ret2
          exact ⟨by rw [← HR.out]; rfl, HCA.out.below⟩
end Go.Proofs.YtbeooeihedhabaaDoor
