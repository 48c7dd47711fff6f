/- cavalcadelaw08.CratePacks, CrateOpens, CrateBack, CrateWays: what the calls do. -/
import Derived.Test.YtbelofikknfoaaaCAwake
namespace Go.Proofs.Ytbelofikknfoaaa
open Go.RowKit
set_option maxHeartbeats 2000000
set_option maxRecDepth 4000
theorem take_size (s : ByteArray) (n : Nat) : (bstr (s.data.toList.take n)).size ≤ n ∧ (bstr (s.data.toList.take n)).size ≤ s.size := by
  have hl : s.data.toList.length = s.size := rfl
  rw [bstr_size, List.length_take, hl]
  omega
theorem packs_any (s : ByteArray) (w : World) (hs : s.size ≤ 140737488351232) :
    Calls Try.prog 3 #[.string s] w fun e w' => e = .returned (.bool true) ∧ Below w.heap.size w w' := by
  have hw := awake8_any
  by_cases hbig : 32768 < s.size
  · have d0 : decide (32768 < (s.size : Int)) = true := decide_eq_true (by omega)
    have d0' : decide (32768 < s.size) = true := decide_eq_true hbig
    have hp := fun w => cpack_any s w (by omega)
    rw [packV, if_pos hbig] at hp
    obtain ⟨E, hE⟩ : ∃ E, E = ByteArray.empty := ⟨_, rfl⟩
    rw [← hE] at hp
    have hEe : E.toList.isEmpty = true := by rw [hE, ByteArray.toList_eq]; rfl
    have HP := Lib.hid hp
    have HW := Lib.hid hw
    clear hp hw hbig hE
    go_enter Try.func3, Try.ntmps3
    go_wp2_with fail
    refine (HP.out _).mono ?_
    rintro e w1 ⟨rfl, hb1⟩
    go_wp2_with fail
    refine (HW.out _).mono ?_
    rintro e w2 ⟨rfl, hb2⟩
    have hb := bw_call hb1 hb2
    go_wp2_with fail
    go_ret
    exact ⟨rfl, hb⟩
  · have d0 : decide (32768 < (s.size : Int)) = false := decide_eq_false (by omega)
    have d0' : decide (32768 < s.size) = false := decide_eq_false hbig
    obtain ⟨S, hS⟩ : ∃ S, S = bstr (s.data.toList.take 400) := ⟨_, rfl⟩
    have hS4 : S.size ≤ 400 := by rw [hS]; exact (take_size s 400).1
    have hf := fun w => few_any s 400 w (by omega) (by omega)
    rw [← hS] at hf
    have hp := fun w => cpack_any S w (by omega)
    have hr := fun w => rpack8_any S w (by omega)
    obtain ⟨P, hP⟩ : ∃ P, packV S = .tuple #[.string P, .int .i64 0] := ⟨_, by rw [packV, if_neg (by omega)]⟩
    rw [hP] at hp hr
    have hs1 := fun w => sum_any S w (by omega)
    have hs2 := fun w => rsum8_any S w (by omega)
    obtain ⟨x, hx⟩ : ∃ x, x = crc S.data.toList := ⟨_, rfl⟩
    rw [← hx] at hs1 hs2
    have HF := Lib.hid hf
    have HP := Lib.hid hp
    have HR := Lib.hid hr
    have HW := Lib.hid hw
    have H1 := Lib.hid hs1
    have H2 := Lib.hid hs2
    clear hf hp hr hw hs1 hs2 hx hP hS hbig
    go_enter Try.func3, Try.ntmps3
    go_wp2_with fail
    refine (HF.out _).mono ?_
    rintro e w1 ⟨rfl, rfl⟩
    go_wp2_with fail
    refine (HP.out _).mono ?_
    rintro e w2 ⟨rfl, hb2⟩
    go_wp2_with fail
    refine (HR.out _).mono ?_
    rintro e w3 ⟨rfl, hb3⟩
    go_wp2_with fail
    refine (HW.out _).mono ?_
    rintro e w4 ⟨rfl, hb4⟩
    have hb := bw_call (bw_call hb2 hb3) hb4
    go_wp2_with fail
    refine (H1.out _).mono ?_
    rintro e w5 ⟨rfl, rfl⟩
    go_wp2_with fail
    refine (H2.out _).mono ?_
    rintro e w6 ⟨rfl, rfl⟩
    go_wp2_with fail
    go_ret
    exact ⟨rfl, hb⟩
theorem opens_any (s : ByteArray) (most : Int) (w : World) (hs : s.size ≤ 140737488351232) :
    Calls Try.prog 4 #[.string s, .int .i64 most] w fun e w' => e = .returned (.bool true) ∧ Below w.heap.size w w' := by
  have hw := awake8_any
  have hp := fun w => copen_any s most w hs
  have hr := fun w => ropen8_any s most w hs
  obtain ⟨T, k, hT⟩ : ∃ T k, unV (openL s.data.toList most) = .tuple #[.string T, .int .i64 k] := by
    cases openL s.data.toList most with
    | error e => exact ⟨_, _, rfl⟩
    | ok t => exact ⟨_, _, rfl⟩
  rw [hT] at hp hr
  have HP := Lib.hid hp
  have HR := Lib.hid hr
  have HW := Lib.hid hw
  clear hp hr hw hT
  go_enter Try.func4, Try.ntmps4
  go_wp2_with fail
  refine (HP.out _).mono ?_
  rintro e w2 ⟨rfl, hb2⟩
  go_wp2_with fail
  refine (HR.out _).mono ?_
  rintro e w3 ⟨rfl, hb3⟩
  go_wp2_with fail
  refine (HW.out _).mono ?_
  rintro e w4 ⟨rfl, hb4⟩
  have hb := bw_call (bw_call hb2 hb3) hb4
  go_wp2_with fail
  go_ret
  exact ⟨rfl, hb⟩
theorem wpk_le (l : List UInt8) : (wpk l).length ≤ 2 * l.length := by
  have := wpF_length (bstr (statL ++ l)) _ 68 68 (Nat.le_refl _) (Nat.le_refl _) (by rw [bstr_size, List.length_append, statL_length]; omega)
  rw [bstr_size, List.length_append, statL_length] at this
  rw [wpk]
  omega
theorem wayL_le {k : Nat} (hk : k ≤ 3) (l : List UInt8) : (wayL k l).length ≤ 4 * l.length + 4 := by
  have h1 := (rpk_len128 _ l (Nat.le_refl _)).1
  have h2 := wpk_le l
  have h3 := wpk_le (rpk l)
  rcases (show k = 0 ∨ k = 1 ∨ k = 2 ∨ k = 3 by omega) with rfl | rfl | rfl | rfl
  · rw [wayL]; omega
    all_goals decide
  · rw [wayL]; omega
  · rw [wayL]; omega
  · rw [wayL]; omega
theorem ways_any (s : ByteArray) (y : Nat) (w : World) (hs : s.size ≤ 140737488351232) (hy : y < 256) :
    Calls Try.prog 6 #[.string s, .int .u8 y] w fun e w' => e = .returned (.bool true) ∧ Below w.heap.size w w' := by
  have hw := awake8_any
  obtain ⟨S, hS⟩ : ∃ S, S = bstr (s.data.toList.take 400) := ⟨_, rfl⟩
  have hS4 : S.size ≤ 400 := by rw [hS]; exact (take_size s 400).1
  have hf := fun w => few_any s 400 w (by omega) (by omega)
  rw [← hS] at hf
  obtain ⟨k, hk⟩ : ∃ k, k = y % 4 := ⟨_, rfl⟩
  have hk3 : k ≤ 3 := by omega
  have e1 : (y : Int) % 4 = (k : Int) := by omega
  have hh := fun w => head_any k S w hk3 (by omega)
  have hy := fun w => way_any k S w hk3 (by omega)
  obtain ⟨Hd, hHd⟩ : ∃ Hd, Hd = bstr (headL k S.data.toList) := ⟨_, rfl⟩
  obtain ⟨B, hB⟩ : ∃ B, B = bstr (wayL k S.data.toList) := ⟨_, rfl⟩
  rw [← hHd] at hh
  rw [← hB] at hy
  obtain ⟨C, hC⟩ : ∃ C, Hd ++ B = C := ⟨_, rfl⟩
  have hSl : S.data.toList.length = S.size := rfl
  have hBs : B.size ≤ 65536 := by
    have := wayL_le hk3 S.data.toList
    rw [hB, bstr_size]
    omega
  have hHs : Hd.size ≤ 20 := by
    have := numB_length_le 2 S.data.toList.length (by omega)
    rw [hHd, bstr_size, headL, List.length_cons, List.length_append, be32_length, numEnc_length]
    omega
  have hCs : C.size ≤ 140737488351232 := by rw [← hC, ByteArray.size_append]; omega
  have hz : Hd.size + B.size ≤ 9223372036854775807 := by omega
  have ho := fun w => copen_any C (S.size : Nat) w hCs
  rw [show C.data.toList = headL k S.data.toList ++ wayL k S.data.toList by rw [← hC, hHd, hB, bstr_append]; rfl, open_head hk3 (by omega) (by rw [hSl]; exact Int.le_refl _)] at ho
  have ho2 : ∀ w, Calls Try.prog 14 #[.string C, .int .i64 (S.size : Nat)] w fun e w' => e = .returned (.tuple #[.string S, .int .i64 0]) ∧ Below w.heap.size w w' := ho
  have hse : (S.toList == S.toList) = true := beq_self_eq_true _
  have HF := Lib.hid hf
  have HH := Lib.hid hh
  have HY := Lib.hid hy
  have HO := Lib.hid ho2
  have HW := Lib.hid hw
  clear hf hh hy ho ho2 hw hS hk hHd hB hBs hHs
  go_enter Try.func6, Try.ntmps6
  go_wp2_with fail
  refine (HF.out _).mono ?_
  rintro e w1 ⟨rfl, rfl⟩
  go_wp2_with fail
  refine (HH.out _).mono ?_
  rintro e w2 ⟨rfl, hb2⟩
  go_wp2_with fail
  refine (HY.out _).mono ?_
  rintro e w3 ⟨rfl, hb3⟩
  go_wp2_with fail
  refine (HO.out _).mono ?_
  rintro e w4 ⟨rfl, hb4⟩
  go_wp2_with fail
  refine (HW.out _).mono ?_
  rintro e w5 ⟨rfl, hb5⟩
  have hb := bw_call (bw_call (bw_call hb2 hb3) hb4) hb5
  go_wp2_with fail
  go_ret
  exact ⟨rfl, hb⟩
end Go.Proofs.Ytbelofikknfoaaa
