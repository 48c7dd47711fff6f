/- cavalcadelaw08.awake, few: what the calls do. -/
import Derived.Test.YtbelofikknfoaaaCOpenR
namespace Go.Proofs.Ytbelofikknfoaaa
open Go.RowKit
set_option maxHeartbeats 2000000
set_option maxRecDepth 100000
def a20 : List UInt8 := [97, 97, 97, 97, 97, 97, 97, 97, 97, 97, 97, 97, 97, 97, 97, 97, 97, 97, 97, 97]
theorem bestW_down (l : List UInt8) : ∀ k, (bestW l (k + 1)).2.length ≤ (bestW l k).2.length := fun k => by
  rw [bestW]
  split
  · simp only; omega
  · exact Nat.le_refl _
theorem a20_runs : (wayL 1 a20).length = 2 := by decide
theorem a20_short : (packL a20).length < 20 := by
  have h1 : (bestW a20 1).2.length ≤ 2 := by
    rw [bestW, a20_runs]
    split
    · exact Nat.le_of_eq a20_runs
    · rename_i h
      exact absurd (show 2 < (bestW a20 0).2.length by decide) h
  have h2 : (bestW a20 2).2.length ≤ (bestW a20 1).2.length := bestW_down a20 1
  have h3 : (bestW a20 3).2.length ≤ (bestW a20 2).2.length := bestW_down a20 2
  have hn := numB_length_le 1 a20.length (by decide)
  simp only [packL, headL, List.length_append, List.length_cons, numEnc_length, be32_length]
  omega
theorem nine_sum : crc [49, 50, 51, 52, 53, 54, 55, 56, 57] = 3421780262 := by decide
theorem awake8_any (w : World) : Calls Try.prog 9 #[] w fun e w' => e = .returned (.bool true) ∧ Below w.heap.size w w' := by
  obtain ⟨C, hC⟩ : ∃ C, C = bstr (packL a20) := ⟨_, rfl⟩
  obtain ⟨T, hT⟩ : ∃ T, T = bstr a20 := ⟨_, rfl⟩
  have hCs : C.size < 20 := by rw [hC]; exact a20_short
  have hp : ∀ w, Calls Try.prog 8 #[.string ⟨#[97, 97, 97, 97, 97, 97, 97, 97, 97, 97, 97, 97, 97, 97, 97, 97, 97, 97, 97, 97]⟩] w fun e w' => e = .returned (.tuple #[.string C, .int .i64 0]) ∧ Below w.heap.size w w' := fun w => by
    rw [hC]
    exact cpack_any (bstr a20) w (by decide)
  have ho : ∀ w, Calls Try.prog 14 #[.string C, .int .i64 20] w fun e w' => e = .returned (.tuple #[.string T, .int .i64 0]) ∧ Below w.heap.size w w' := fun w => by
    have h := copen_any C 20 w (by omega)
    rw [show C.data.toList = packL a20 by rw [hC]; rfl, open_pack (l := a20) (by decide) (by decide)] at h
    rw [hT]
    exact h
  have hsm : ∀ w, Calls Try.prog 12 #[.string ⟨#[49, 50, 51, 52, 53, 54, 55, 56, 57]⟩] w fun e w' => e = .returned (.int .u32 3421780262) ∧ w' = w := fun w => by
    have h := sum_any (bstr [49, 50, 51, 52, 53, 54, 55, 56, 57]) w (by decide)
    rw [bstr_toList, nine_sum] at h
    exact h
  have hte : (T.toList == [97, 97, 97, 97, 97, 97, 97, 97, 97, 97, 97, 97, 97, 97, 97, 97, 97, 97, 97, 97]) = true := by rw [hT, ByteArray.toList_eq]; exact beq_self_eq_true _
  have d1 : decide ((C.size : Int) < 20) = true := decide_eq_true (by omega)
  have d1' : decide (C.size < 20) = true := decide_eq_true (by omega)
  have HP := Lib.hid hp
  have HO := Lib.hid ho
  have HS := Lib.hid hsm
  clear hp ho hsm hC hT
  go_enter Try.func9, Try.ntmps9
  go_wp2_with fail
  refine (HP.out _).mono ?_
  rintro e w1 ⟨rfl, hb1⟩
  go_wp2_with fail
  refine (HO.out _).mono ?_
  rintro e w2 ⟨rfl, hb2⟩
  go_wp2_with fail
  refine (HS.out _).mono ?_
  rintro e w3 ⟨rfl, rfl⟩
  have hb := bw_call hb1 hb2
  go_wp2_with fail
  go_ret
  exact ⟨rfl, hb⟩
theorem few_any (s : ByteArray) (n : Nat) (w : World) (hs : s.size ≤ 140737488355328) (hn : n ≤ 1048576) :
    Calls Try.prog 10 #[.string s, .int .i64 n] w fun e w' => e = .returned (.string (bstr (s.data.toList.take n))) ∧ w' = w := by
  by_cases h : n < s.size
  · have d0 : decide ((n : Int) < s.size) = true := decide_eq_true (by omega)
    have d0' : decide (n < s.size) = true := decide_eq_true h
    obtain ⟨E, hE⟩ : ∃ E, s.extract 0 n = E := ⟨_, rfl⟩
    have HE : Hid (E = bstr (s.data.toList.take n)) := show _ = _ from by
      rw [← hE]
      apply ByteArray.ext
      apply Array.ext'
      rw [ByteArray.data_extract, Array.toList_extract]
      simp [bstr]
    have f1 : (0 : Int) ≤ n := by omega
    have f2 : (n : Int) ≤ s.size := by omega
    go_enter Try.func10, Try.ntmps10
    go_wp2_with fail
    go_ret
    exact ⟨by rw [← HE.out]; rfl, rfl⟩
  · have d0 : decide ((n : Int) < s.size) = false := decide_eq_false (by omega)
    have d0' : decide (n < s.size) = false := decide_eq_false h
    have HE : Hid (s = bstr (s.data.toList.take n)) := show _ = _ from by
      rw [List.take_of_length_le (by show s.size ≤ n; omega)]
      rfl
    go_enter Try.func10, Try.ntmps10
    go_wp2_with fail
    go_ret
    exact ⟨by rw [← HE.out]; rfl, rfl⟩
end Go.Proofs.Ytbelofikknfoaaa
