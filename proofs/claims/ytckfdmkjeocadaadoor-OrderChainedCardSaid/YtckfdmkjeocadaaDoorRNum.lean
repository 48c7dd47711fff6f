/- The reference's numbers, texts and lists: what the calls do. -/
import Derived.Test.YtckfdmkjeocadaaDoorBuf
import Derived.Test.YtckfdmkjeocadaaDoorTxPure
namespace Go.Proofs.YtckfdmkjeocadaaDoor
open Go.RowKit
set_option maxHeartbeats 400000 in
set_option maxRecDepth 4000 in
theorem rnumber_neg (n : Int) (w : World) (h : n < 0) :
    Calls Tryd.prog 90 #[.int .i64 n] w fun e w' => e = .returned (.tuple #[.string ByteArray.empty, .int .i64 2]) ∧ w' = w := by
  go_enter Tryd.func90, Tryd.ntmps90
  go_wp2
  go_ret2
  exact ⟨rfl, rfl⟩
theorem rnum_step {n k : Nat} {tl : List UInt8} (hk : 0 < k) (h : numB n = numB k ++ tl) : numB n = numB (k / 256) ++ UInt8.ofNat (k % 256) :: tl := by
  rw [h, numB_pos hk]; simp
set_option maxHeartbeats 400000 in
set_option maxRecDepth 4000 in
theorem rnumber_any (n : Int) (w : World) (h : 0 ≤ n) (h2 : n ≤ 9223372036854775807) :
    Calls Tryd.prog 90 #[.int .i64 n] w fun e w' => e = .returned (.tuple #[.string (bstr (numEnc n.toNat)), .int .i64 0]) ∧ Below w.heap.size w w' := by
  obtain ⟨n, rfl⟩ := Int.eq_ofNat_of_zero_le h
  go_enter Tryd.func90, Tryd.ntmps90
  go_wp2
  go_loopw [0, 4, 5] (fun n0 s c wr => ∃ (k m : Nat) (tl : List UInt8), k ≤ 9223372036854775807 ∧ m ≤ 8 ∧ k < 256 ^ m ∧ Hid (m + tl.length = 8) ∧ Hid (numB n = numB k ++ tl) ∧ n0 = .int .i64 k ∧ s = .string (bstr tl) ∧ c = .int .i64 tl.length ∧ Hid (Below w.heap.size w wr)) (fun n0 _ _ _ => (intOf n0).toNat)
  case atStart => exact ⟨n, 8, [], by omega, by omega, by omega, rfl, show _ = _ by simp, rfl, rfl, rfl, Below.refl _ _⟩
  case round =>
    obtain ⟨k, m, tl, hk, hm, hkm, hml, hn, rfl, rfl, rfl, hB⟩ := hrel
    have htl : tl.length ≤ 8 := by have := hml.out; omega
    by_cases hlt : 0 < k
    · have hcv := fun W => conv_byte ((k : Int) % 256) (by omega) (by omega) W
      have hsz : (bstr [UInt8.ofNat (k % 256)]).size + (bstr tl).size ≤ 9223372036854775807 := by rw [bstr_size, bstr_size]; simp; omega
      have hm1 : 1 ≤ m := num_m1 hlt hkm
      go_wp2
      go_roundw
      case rel =>
        refine ⟨k / 256, m - 1, UInt8.ofNat (k % 256) :: tl, by omega, by omega, num_lt hm1 hkm, show _ = _ by have := hml.out; simp; omega, rnum_step hlt hn.out, by go_num, ?_, by simp, bw_alloc hB.out _⟩
        rw [bstr_append]
        congr 2
      case measure => simp [intOf]; omega
    · obtain rfl : k = 0 := by omega
      have hcv := fun W => conv_byte (tl.length : Int) (by omega) (by omega) W
      have hsz : (bstr [UInt8.ofNat tl.length]).size + (bstr tl).size ≤ 9223372036854775807 := by rw [bstr_size, bstr_size]; simp; omega
      go_wp2
      go_ret2
      refine ⟨?_, bw_alloc hB.out _⟩
      have h5 := hn.out
      rw [numB_zero, List.nil_append] at h5
      rw [Int.toNat_natCast, numEnc, h5]
      rfl
set_option maxHeartbeats 400000 in
set_option maxRecDepth 4000 in
theorem rnum4_any (n : Int) (w : World) (h : 0 ≤ n) (h2 : n ≤ 9223372036854775807) :
    Calls Tryd.prog 62 #[.int .i64 n] w fun e w' => e = .returned (.string (numS n.toNat)) ∧ Below w.heap.size w w' := by
  go_enter Tryd.func62, Tryd.ntmps62
  go_wp2_with fail
  refine (rnumber_any n _ h h2).mono ?_
  rintro e w1 ⟨rfl, hb⟩
  have HB := Lib.hid hb
  clear hb
  go_wp2_with fail
  go_ret
  exact ⟨rfl, HB.out⟩
set_option maxHeartbeats 400000 in
set_option maxRecDepth 4000 in
theorem rtext_any (s : ByteArray) (w : World) (h : s.size ≤ 65536) :
    Calls Tryd.prog 91 #[.string s] w fun e w' => e = .returned (.tuple #[.string (bstr (encText s)), .int .i64 0]) ∧ Below w.heap.size w w' := by
  have hn := num_small (n := s.size) (by omega)
  have hsz : (bstr (numEnc s.size)).size + s.size ≤ 9223372036854775807 := by rw [bstr_size]; omega
  go_enter Tryd.func91, Tryd.ntmps91
  go_wp2_with fail
  refine (rnumber_any _ _ (by omega) (by omega)).mono ?_
  rintro e w1 ⟨rfl, hb⟩
  rw [Int.toNat_natCast]
  have HB := Lib.hid hb
  clear hb
  go_wp2_with fail
  go_ret2
  exact ⟨by rw [show bstr (numEnc s.size) ++ s = bstr (encText s) by rw [← bstr_of s, bstr_append]; rfl]; rfl, HB.out⟩
theorem enc_size {s : ByteArray} (h : s.size ≤ 65536) : (bstr (encText s)).size ≤ s.size + 4 := by
  have hn := num_small (n := s.size) (by omega)
  have h2 : s.data.toList.length = s.size := rfl
  rw [bstr_size, encText, List.length_append]
  omega
theorem rlist_len {ls : List ByteArray} {k : Nat} (hl : ls.length ≤ 1024) (ht : tot ls ≤ 65536) : (numEnc ls.length ++ encTexts (ls.take k)).length ≤ 4 + 65536 + 4 * 1024 := by
  have h1 := num_small (n := ls.length) (by omega)
  have h2 := encd_tot (ls.take k) fun s hs => Nat.le_trans (size_le_tot (List.mem_of_mem_take hs)) ht
  have h3 := tot_le ls k
  have h4 : (encTexts (ls.take k)).length = tot (encd (ls.take k)) := by
    rw [← flat_length]
    unfold flat encTexts encd
    rw [List.map_map]
    rfl
  have h5 : (ls.take k).length ≤ 1024 := by rw [List.length_take]; omega
  rw [List.length_append]
  omega
theorem encTexts_snoc {ls : List ByteArray} {k : Nat} (h : k < ls.length) : encTexts (ls.take k) ++ encText (ls[k]'h) = encTexts (ls.take (k + 1)) := by
  rw [List.take_succ_eq_append_getElem h]
  unfold encTexts
  rw [List.map_append, List.flatten_append]
  simp
set_option maxHeartbeats 1000000 in
set_option maxRecDepth 4000 in
theorem rlist_ok (v : Value) (ls : List ByteArray) (w : World) (hv : RdStrs w v ls) (hl : ls.length ≤ 1024) (ht : tot ls ≤ 65536) :
    Calls Tryd.prog 63 #[v] w fun e w' => e = .returned (.tuple #[.string (bstr (encList ls)), .int .i64 0]) ∧ Below w.heap.size w w' := by
  obtain ⟨A, c, rfl, _, b, off, hb0, hr⟩ := hv
  have HR := Lib.hid hr
  have HTT := Lib.hid ht
  have hn := num_small (n := ls.length) (by omega)
  clear hr ht
  go_enter Tryd.func63, Tryd.ntmps63
  go_wp2_with fail
  refine (rnumber_any _ _ (by omega) (by omega)).mono ?_
  rintro e w1 ⟨rfl, hb⟩
  rw [Int.toNat_natCast]
  have HB := Lib.hid hb
  have hs1 := hb.size
  obtain ⟨v1, W1, hcv, hO1, hb1⟩ := conv_own w1 (bstr (numEnc ls.length)) (by rw [bstr_size]; unfold maxLen; omega)
  have HO1 := Lib.hid hO1
  have HB1 := Lib.hid (bw_call hb hb1)
  clear hb hO1 hb1
  go_wp2_with fail
  clear hcv
  go_loopw [6, 7, 8] (fun o sum i wr => ∃ k T : Nat, k ≤ ls.length ∧ T ≤ 65536 ∧ Hid (T = tot (ls.take k)) ∧ i = .int .i64 k ∧ sum = .int .i64 T ∧ Hid (Below w.heap.size w wr) ∧ Hid (OwnB w.heap.size o (numEnc ls.length ++ encTexts (ls.take k)) wr)) (fun _ _ i _ => ls.length - (intOf i).toNat)
  case atStart => exact ⟨0, 0, by omega, by omega, rfl, rfl, rfl, HB1.out, show OwnB w.heap.size v1 (numEnc ls.length ++ []) W1 from by rw [List.append_nil]; exact HO1.out.mono hs1⟩
  case round =>
    clear HO1 HB1
    obtain ⟨k, T, hk, hT1, hT, rfl, rfl, hB, hO⟩ := hrel
    by_cases hlt : k < ls.length
    · obtain ⟨rfl, hc0⟩ := HR.out k hlt
      have hc := join_cell hB.out hb0 hc0
      clear hc0
      have hs := tot_snoc ls k hlt
      have hs2 := tot_le ls (k + 1)
      have hs4 : (ls[k]).size ≤ 65536 - T := by have := hT.out; have := HTT.out; omega
      have hs5 : (ls[k]).size ≤ 65536 := by omega
      have HS := Lib.hid hs
      have HLen := Lib.hid (rlist_len (k := k) hl HTT.out)
      clear hs hs2
      go_wp2_with fail
      refine (rtext_any _ _ hs5).mono ?_
      rintro e w2 ⟨rfl, hb2⟩
      have HB2 := Lib.hid (bw_call hB.out hb2)
      have hO2 := hO.out.below hb2 (Nat.le_refl _)
      have hsz2 := enc_size hs5
      clear hb2 hO hB
      go_wp2_with ((at_builtin; refine wpList_app_str rfl (.tmp 51) (.tmp 52) rfl w.heap.size _ _ rfl hO2 (bstr (encText ls[k])) rfl (by have := HLen.out; omega) ?_); intro v3 w3 hO3 hb3)
      go_roundw
      case rel => exact ⟨k + 1, T + (ls[k]).size, by omega, by omega, show _ = _ by rw [HS.out, ← hT.out], by go_num, by go_num, HB2.out.trans hb3.out, by have := hO3.out; rw [bstr_toList, List.append_assoc, encTexts_snoc hlt] at this; exact this⟩
      case measure => simp [intOf]; omega
    · obtain rfl : k = ls.length := by omega
      have hcv := hO.out.conv
      rw [List.take_length] at hcv
      go_wp2_with fail
      go_ret2
      exact ⟨rfl, hB.out⟩
end Go.Proofs.YtckfdmkjeocadaaDoor
