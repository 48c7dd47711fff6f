/- crate.Pack: what the call does. -/
import Derived.Test.YtbelofikknfoaaaCKTry
import Derived.Deep.Cut
namespace Go.Proofs.Ytbelofikknfoaaa
open Go.RowKit
set_option maxHeartbeats 2000000
set_option maxRecDepth 4000
theorem best_step {L : List UInt8} {k n n' : Nat} {B B' : ByteArray} (h0 : k = 0 → B.data.toList = L ∧ n = 0) (h : bestW L (k - 1) = (n, B.data.toList)) (he : (n', B'.data.toList) = (if (wayL k L).length < B.data.toList.length then (k, wayL k L) else (n, B.data.toList))) : bestW L k = (n', B'.data.toList) := by
  rw [he]
  cases k with
  | zero =>
    obtain ⟨h1, rfl⟩ := h0 rfl
    rw [if_neg (by rw [h1]; show ¬ L.length < L.length; omega)]
    exact h
  | succ k =>
    rw [Nat.add_sub_cancel] at h
    rw [bestW, h]
theorem crat_one (w : World) (s : ByteArray) : CrAt w.heap.size w (((w.alloc (.cells #[.string s] 9)).alloc (.cells #[.string s] 9)).alloc (.cells #[.int .i64 (0 : Nat)] 3)).drew w.heap.size (w.heap.size + 1 + 1) (w.heap.size + 1) s 0 s := by
  obtain ⟨w1, h1⟩ : ∃ w1, w1 = w.alloc (.cells #[.string s] 9) := ⟨_, rfl⟩
  obtain ⟨w2, h2⟩ : ∃ w2, w2 = w1.alloc (.cells #[.string s] 9) := ⟨_, rfl⟩
  obtain ⟨w3, h3⟩ : ∃ w3, w3 = w2.alloc (.cells #[.int .i64 (0 : Nat)] 3) := ⟨_, rfl⟩
  have s1 : w1.heap.size = w.heap.size + 1 := by rw [h1]; simp
  have s2 : w2.heap.size = w.heap.size + 1 + 1 := by rw [h2]; simp [s1]
  rw [← h1, ← h2, ← h3]
  have a1 : w1.heap[w.heap.size]? = some (.cells #[.string s] 9 (0, 0)) := by rw [h1]; exact heap_alloc_new w _
  have a2 : w2.heap[w.heap.size + 1]? = some (.cells #[.string s] 9 (0, 0)) := by rw [h2, ← s1]; exact heap_alloc_new w1 _
  have a3 : w3.heap[w.heap.size + 1 + 1]? = some (.cells #[.int .i64 (0 : Nat)] 3 (0, 0)) := by rw [h3, ← s2]; exact heap_alloc_new w2 _
  have o2 : ∀ k, k < w.heap.size + 1 → w2.heap[k]? = w1.heap[k]? := fun k hk => by rw [h2]; exact heap_alloc_old w1 _ (by omega)
  have o3 : ∀ k, k < w.heap.size + 1 + 1 → w3.heap[k]? = w2.heap[k]? := fun k hk => by rw [h3]; exact heap_alloc_old w2 _ (by omega)
  have hb := bw_alloc (bw_alloc (bw_alloc (Below.refl w.heap.size w) (.cells #[.string s] 9)) (.cells #[.string s] 9)) (.cells #[.int .i64 (0 : Nat)] 3)
  rw [← h1, ← h2, ← h3] at hb
  exact ⟨(o3 _ (by omega)).trans ((o2 _ (by omega)).trans a1), a3, (o3 _ (by omega)).trans a2, by omega, by omega, hb.drew⟩
theorem crat_two (w : World) (s : ByteArray) : CrAt w.heap.size w (((w.alloc (.cells #[.string s] 9)).alloc (.cells #[.int .i64 (0 : Nat)] 3)).alloc (.cells #[.string s] 9)).drew w.heap.size (w.heap.size + 1) (w.heap.size + 1 + 1) s 0 s := by
  obtain ⟨w1, h1⟩ : ∃ w1, w1 = w.alloc (.cells #[.string s] 9) := ⟨_, rfl⟩
  obtain ⟨w2, h2⟩ : ∃ w2, w2 = w1.alloc (.cells #[.int .i64 (0 : Nat)] 3) := ⟨_, rfl⟩
  obtain ⟨w3, h3⟩ : ∃ w3, w3 = w2.alloc (.cells #[.string s] 9) := ⟨_, rfl⟩
  have s1 : w1.heap.size = w.heap.size + 1 := by rw [h1]; simp
  have s2 : w2.heap.size = w.heap.size + 1 + 1 := by rw [h2]; simp [s1]
  rw [← h1, ← h2, ← h3]
  have a1 : w1.heap[w.heap.size]? = some (.cells #[.string s] 9 (0, 0)) := by rw [h1]; exact heap_alloc_new w _
  have a2 : w2.heap[w.heap.size + 1]? = some (.cells #[.int .i64 (0 : Nat)] 3 (0, 0)) := by rw [h2, ← s1]; exact heap_alloc_new w1 _
  have a3 : w3.heap[w.heap.size + 1 + 1]? = some (.cells #[.string s] 9 (0, 0)) := by rw [h3, ← s2]; exact heap_alloc_new w2 _
  have o2 : ∀ k, k < w.heap.size + 1 → w2.heap[k]? = w1.heap[k]? := fun k hk => by rw [h2]; exact heap_alloc_old w1 _ (by omega)
  have o3 : ∀ k, k < w.heap.size + 1 + 1 → w3.heap[k]? = w2.heap[k]? := fun k hk => by rw [h3]; exact heap_alloc_old w2 _ (by omega)
  have hb := bw_alloc (bw_alloc (bw_alloc (Below.refl w.heap.size w) (.cells #[.string s] 9)) (.cells #[.int .i64 (0 : Nat)] 3)) (.cells #[.string s] 9)
  rw [← h1, ← h2, ← h3] at hb
  exact ⟨(o3 _ (by omega)).trans ((o2 _ (by omega)).trans a1), (o3 _ (by omega)).trans a2, a3, by omega, by omega, hb.drew⟩
theorem cpack_any (s : ByteArray) (w : World) (hs : s.size ≤ 140737488355328) :
    Calls Try.prog 8 #[.string s] w fun e w' => e = .returned (packV s) ∧ Below w.heap.size w w' := by
  by_cases hbig : 32768 < s.size
  · have d0 : decide (32768 < (s.size : Int)) = true := decide_eq_true (by omega)
    have hb1 := bw_alloc (Below.refl w.heap.size w) (.cells #[.string s] 9)
    rw [packV, if_pos hbig]
    clear hbig
    go_enter Try.func8, Try.ntmps8
    go_wp2_with fail
    go_ret2
    exact ⟨rfl, hb1⟩
  · have d0 : decide (32768 < (s.size : Int)) = false := decide_eq_false (by omega)
    rw [packV, if_neg hbig]
    obtain ⟨L, hL⟩ : ∃ L, L = s.data.toList := ⟨_, rfl⟩
    have hLs : L.length = s.size := by rw [hL]; rfl
    have hnum := fun w => number_any (s.size : Int) w (by omega) (by omega)
    have hsum := fun w => sum_any s w (by omega)
    rw [Int.toNat_natCast] at hnum
    rw [← hL] at hsum ⊢
    obtain ⟨x, hx⟩ : ∃ x, x = crc L := ⟨_, rfl⟩
    have hxl : x < 4294967296 := by rw [hx]; exact crc_lt _
    rw [← hx] at hsum
    have HX := Lib.hid hx
    have HLs := Lib.hid hLs
    have HL := Lib.hid hL
    have hb32 : s.size ≤ 32768 := by omega
    have HNUM := Lib.hid hnum
    have HSUM := Lib.hid hsum
    clear hx hL hLs hbig hnum hsum
    have hh0 : (w.alloc (.cells #[.string s] 9)).heap[w.heap.size]? = some (.cells #[.string s] 9 (0, 0)) := heap_alloc_new w _
    have HH0 := Lib.hid hh0
    have HB0 := Lib.hid (bw_alloc (Below.refl w.heap.size w) (.cells #[.string s] 9))
    have hs0 : (w.alloc (.cells #[.string s] 9)).heap.size = w.heap.size + 1 := by simp
    have HS0 := Lib.hid hs0
    clear hh0 hs0
    go_enter Try.func8, Try.ntmps8
    go_upto_region 3 with fail
    go_cut [4, 5] (fun p q wx => ∃ b4 b5 : Nat, p = .pointer (some ⟨b4, 0, none⟩) ∧ q = .pointer (some ⟨b5, 0, none⟩) ∧ Hid (CrAt w.heap.size w wx w.heap.size b4 b5 s 0 s))
    case first =>
      have HA1 := Lib.hid (crat_one w s)
      have HA2 := Lib.hid (crat_two w s)
      go_region
      all_goals
        go_wp2_with fail
        go_meet
        case rel => first | exact ⟨_, _, rfl, rfl, HA1⟩ | exact ⟨_, _, rfl, rfl, HA2⟩
    case rest =>
      obtain ⟨b4, b5, rfl, rfl, HA⟩ := hcut
      generalize wc = w2 at *
      have HS0 : Hid (bestW L (0 - 1) = (0, s.data.toList)) := show _ = _ from by rw [HL.out]; rfl
      go_wp2_with fail
      go_loopg [16] 4 (fun gk i wr => ∃ (k n : Nat) (B : ByteArray), k + gk = 4 ∧ n ≤ 3 ∧ i = .int .i64 k ∧ Hid (k = 0 → B.data.toList = L ∧ n = 0) ∧ Hid (bestW L (k - 1) = (n, B.data.toList)) ∧ Hid (CrAt w.heap.size w wr w.heap.size b4 b5 s n B))
      case atStart => exact ⟨0, 0, s, by omega, by omega, rfl, show _ → _ from fun _ => ⟨HL.out.symm, rfl⟩, HS0, HA⟩
      case round =>
        obtain ⟨k, n, B, hkg, hn3, rfl, HZ, HBW, HCr⟩ := hrel
        by_cases hlt : k < 4
        · have d1 : decide ((k : Int) < 4) = true := decide_eq_true (by omega)
          have HC := Lib.hid (try_any w.heap.size w w.heap.size b4 b5 s B n k wr HCr.out (by omega) (by omega))
          go_wp2_with fail
          refine HC.out.mono ?_
          rintro e w3 ⟨rfl, n', B', he, hcr⟩
          rw [← HL.out] at he
          have HN := Lib.hid (best_step HZ.out HBW.out he)
          have hn' : n' ≤ 3 := by
            split at he
            · have := (Prod.mk.inj he).1; omega
            · have := (Prod.mk.inj he).1; omega
          have HCR := Lib.hid hcr
          clear he hcr
          go_wp2_with fail
          go_roundg (gk - 1)
          case measure => omega
          case rel => exact ⟨k + 1, n', B', by omega, hn', by go_num, show _ → _ from fun h => by omega, show bestW L (k + 1 - 1) = _ from HN.out, HCR⟩
        · have d1 : decide ((k : Int) < 4) = false := decide_eq_false (by omega)
          obtain rfl : k = 4 := by omega
          have c1 := cell_of_one HCr.out.s
          obtain ⟨S1, hS1⟩ : ∃ S, S = bstr [UInt8.ofNat n] := ⟨_, rfl⟩
          obtain ⟨S2, hS2⟩ : ∃ S, S = bstr (numEnc s.size) := ⟨_, rfl⟩
          obtain ⟨S3, hS3⟩ : ∃ S, S = bstr (be32 x) := ⟨_, rfl⟩
          obtain ⟨S12, h12⟩ : ∃ S, S1 ++ S2 = S := ⟨_, rfl⟩
          obtain ⟨S123, h123⟩ : ∃ S, S12 ++ S3 = S := ⟨_, rfl⟩
          obtain ⟨S1234, h1234⟩ : ∃ S, S123 ++ B = S := ⟨_, rfl⟩
          have hn9 : (numEnc s.size).length ≤ 9 := by
            have := numB_length_le 8 s.size (by omega)
            rw [numEnc_length]; omega
          have z2 : S2.size ≤ 9 := by rw [hS2]; exact hn9
          have z1 : S1.size = 1 := by rw [hS1]; rfl
          have z3 : S3.size = 4 := by rw [hS3]; rfl
          have zB : B.size ≤ s.size := by
            have h1 := (bestW_is L 3).2.2
            have h0 := HBW.out
            rw [show 4 - 1 = 3 from rfl] at h0
            rw [h0] at h1
            have h2 := HLs.out
            have h3 : B.data.toList.length = B.size := rfl
            simp only at h1
            omega
          have z12 : S12.size ≤ 10 := by rw [← h12, ByteArray.size_append]; omega
          have z123 : S123.size ≤ 14 := by rw [← h123, ByteArray.size_append]; omega
          have hz1 : S1.size + S2.size ≤ 9223372036854775807 := by omega
          have hz2 : S12.size + S3.size ≤ 9223372036854775807 := by omega
          have hz3 : S123.size + B.size ≤ 9223372036854775807 := by omega
          have HR : Hid (S1234 = bstr (packL L)) := show _ = _ from by
            have h0 := HBW.out
            rw [show 4 - 1 = 3 from rfl] at h0
            rw [← h1234, ← h123, ← h12, hS1, hS2, hS3, packL, h0, bstr_append, bstr_append, headL, HLs.out, ← HX.out, ← bstr_of B, bstr_append]
            simp [bstr_toList]
          have hc1 : ∀ W : World, (convert 34 9 (.slice (some ⟨W.heap.size, 0, none⟩) 1 1)).run Try.prog (W.alloc (.cells #[.int .u8 (n : Int)] 5)) = .ok (.string S1) (W.alloc (.cells #[.int .u8 (n : Int)] 5)) := fun W => by
            rw [hS1]
            refine conv_new (t := 5) (cs := #[.int .u8 (n : Int)]) [UInt8.ofNat n] Try.underlying34 Try.underlying5 Try.underlying9 rfl fun i hi => ?_
            have : i = 0 := by omega
            subst this
            simp [u8s]
            omega
          have hc2 : ∀ W : World, (convert 34 9 (.slice (some ⟨W.heap.size + 1, 0, none⟩) 4 4)).run Try.prog ((W.alloc (.cells #[.int .u8 (n : Int)] 5)).alloc (.cells #[.int .u8 ((x : Int) / 16777216), .int .u8 ((x : Int) / 65536 % 256), .int .u8 ((x : Int) / 256 % 256), .int .u8 ((x : Int) % 256)] 5)) = .ok (.string S3) ((W.alloc (.cells #[.int .u8 (n : Int)] 5)).alloc (.cells #[.int .u8 ((x : Int) / 16777216), .int .u8 ((x : Int) / 65536 % 256), .int .u8 ((x : Int) / 256 % 256), .int .u8 ((x : Int) % 256)] 5)) := fun W => by
            rw [hS3]
            have hsz : (W.alloc (.cells #[.int .u8 (n : Int)] 5)).heap.size = W.heap.size + 1 := by simp
            rw [← hsz]
            exact conv_be32 hxl (W.alloc (.cells #[.int .u8 (n : Int)] 5))
          have hnum2 := HNUM.out
          rw [← hS2] at hnum2
          have HN2 := Lib.hid hnum2
          clear hS1 hS2 hS3 z1 z2 z3 z12 z123 hn9 hnum2 zB
          go_wp2_with fail
          refine (HN2.out _).mono ?_
          rintro e w3 ⟨rfl, hb3⟩
          have HC3 := Lib.hid (HCr.out.next hb3)
          have c3 := cell_of_one HC3.out.s
          have c4 := cell_of_one HC3.out.way
          have HCA := Lib.hid ((HC3.out.next (bw_alloc (Below.refl _ _) (.cells #[.int .u8 (n : Int)] 5))).next (bw_alloc (Below.refl _ _) (.cells #[.int .u8 ((x : Int) / 16777216), .int .u8 ((x : Int) / 65536 % 256), .int .u8 ((x : Int) / 256 % 256), .int .u8 ((x : Int) % 256)] 5)))
          have c5 := cell_of_one HCA.out.best
          clear hb3 c1
          go_wp2_with fail
          refine (HSUM.out _).mono ?_
          rintro e w4 ⟨rfl, rfl⟩
          go_wp2_with fail
          go_ret2
          exact ⟨by rw [← HR.out]; rfl, HCA.out.below⟩
end Go.Proofs.Ytbelofikknfoaaa
