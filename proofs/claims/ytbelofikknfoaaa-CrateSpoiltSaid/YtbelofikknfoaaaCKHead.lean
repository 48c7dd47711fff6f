/- cavalcaderef08.Head: what the call does. -/
import Derived.Test.YtbelofikknfoaaaCKPack
import Derived.Outline
namespace Go.Proofs.Ytbelofikknfoaaa
open Go.RowKit
set_option maxHeartbeats 2000000
set_option maxRecDepth 4000
theorem conv_be32 {x : Nat} (hxl : x < 4294967296) (W : World) : (convert 34 9 (.slice (some ⟨W.heap.size, 0, none⟩) 4 4)).run Try.prog (W.alloc (.cells #[.int .u8 ((x : Int) / 16777216), .int .u8 ((x : Int) / 65536 % 256), .int .u8 ((x : Int) / 256 % 256), .int .u8 ((x : Int) % 256)] 5)) = .ok (.string (bstr (be32 x))) (W.alloc (.cells #[.int .u8 ((x : Int) / 16777216), .int .u8 ((x : Int) / 65536 % 256), .int .u8 ((x : Int) / 256 % 256), .int .u8 ((x : Int) % 256)] 5)) := by
  refine conv_new (t := 5) (be32 x) Try.underlying34 Try.underlying5 Try.underlying9 rfl fun i hi => ?_
  match i, hi with
  | 0, _ => simp [u8s, be32]; omega
  | 1, _ => simp [u8s, be32]
  | 2, _ => simp [u8s, be32]
  | 3, _ => simp [u8s, be32]
theorem head_any (k : Nat) (s : ByteArray) (w : World) (hk : k ≤ 3) (hs : s.size ≤ 1073741824) :
    Calls Try.prog 16 #[.int .i64 k, .string s] w fun e w' => e = .returned (.string (bstr (headL k s.data.toList))) ∧ Below w.heap.size w w' := by
  have hnum := fun w => rnumber_any (s.size : Int) w (by omega) (by omega)
  have hsum := fun w => rsum8_any s w (by omega)
  obtain ⟨x, hx⟩ : ∃ x, x = crc s.data.toList := ⟨_, rfl⟩
  have hxl : x < 4294967296 := by rw [hx]; exact crc_lt _
  rw [← hx] at hsum
  have HX := Lib.hid hx
  have HK : Hid (k < 256) := show k < 256 from by omega
  rw [Int.toNat_natCast] at hnum
  obtain ⟨S1, hS1⟩ : ∃ S, S = bstr [UInt8.ofNat k] := ⟨_, rfl⟩
  obtain ⟨S2, hS2⟩ : ∃ S, S = bstr (numEnc s.size) := ⟨_, rfl⟩
  obtain ⟨S3, hS3⟩ : ∃ S, S = bstr (be32 x) := ⟨_, rfl⟩
  obtain ⟨S12, h12⟩ : ∃ S, S1 ++ S2 = S := ⟨_, rfl⟩
  obtain ⟨S123, h123⟩ : ∃ S, S12 ++ S3 = S := ⟨_, rfl⟩
  have hn9 : (numEnc s.size).length ≤ 9 := by
    have := numB_length_le 8 s.size (by omega)
    rw [numEnc_length]; omega
  have z2 : S2.size ≤ 9 := by rw [hS2]; exact hn9
  have z1 : S1.size = 1 := by rw [hS1]; rfl
  have z3 : S3.size = 4 := by rw [hS3]; rfl
  have hz1 : S1.size + S2.size ≤ 9223372036854775807 := by omega
  have hz2 : S12.size + S3.size ≤ 9223372036854775807 := by rw [← h12, ByteArray.size_append]; omega
  have HR : Hid (S123 = bstr (headL k s.data.toList)) := show _ = _ from by
    have hl : s.data.toList.length = s.size := rfl
    rw [← h123, ← h12, hS1, hS2, hS3, bstr_append, bstr_append, hx, headL, hl]
    simp
  rw [← HR.out]
  rw [← hS2] at hnum
  have hc1 : ∀ W : World, (convert 34 9 (.slice (some ⟨W.heap.size, 0, none⟩) 1 1)).run Try.prog (W.alloc (.cells #[.int .u8 (k : Int)] 5)) = .ok (.string S1) (W.alloc (.cells #[.int .u8 (k : Int)] 5)) := fun W => by
    rw [hS1]
    refine conv_new (t := 5) (cs := #[.int .u8 (k : Int)]) [UInt8.ofNat k] Try.underlying34 Try.underlying5 Try.underlying9 rfl fun i hi => ?_
    have : i = 0 := by omega
    subst this
    simp [u8s]
    omega
  have hc2 : ∀ W : World, (convert 34 9 (.slice (some ⟨W.heap.size + 1, 0, none⟩) 4 4)).run Try.prog ((W.alloc (.cells #[.int .u8 (k : Int)] 5)).alloc (.cells #[.int .u8 ((x : Int) / 16777216), .int .u8 ((x : Int) / 65536 % 256), .int .u8 ((x : Int) / 256 % 256), .int .u8 ((x : Int) % 256)] 5)) = .ok (.string S3) ((W.alloc (.cells #[.int .u8 (k : Int)] 5)).alloc (.cells #[.int .u8 ((x : Int) / 16777216), .int .u8 ((x : Int) / 65536 % 256), .int .u8 ((x : Int) / 256 % 256), .int .u8 ((x : Int) % 256)] 5)) := fun W => by
    rw [hS3]
    have hsz : (W.alloc (.cells #[.int .u8 (k : Int)] 5)).heap.size = W.heap.size + 1 := by simp
    rw [← hsz]
    exact conv_be32 hxl (W.alloc (.cells #[.int .u8 (k : Int)] 5))
  clear hx hS1 hS2 hS3 z1 z2 z3 hn9
  go_enter Try.func16, Try.ntmps16
  go_wp2_with fail
  refine (hnum _).mono ?_
  rintro e w1 ⟨rfl, hb1⟩
  go_wp2_with fail
  refine (hsum _).mono ?_
  rintro e w2 ⟨rfl, rfl⟩
  have HB2 := Lib.hid (bw_alloc (bw_alloc hb1 (.cells #[.int .u8 (k : Int)] 5)) (.cells #[.int .u8 ((x : Int) / 16777216), .int .u8 ((x : Int) / 65536 % 256), .int .u8 ((x : Int) / 256 % 256), .int .u8 ((x : Int) % 256)] 5))
  go_wp2_with fail
  go_ret
  exact ⟨rfl, HB2.out⟩
end Go.Proofs.Ytbelofikknfoaaa
