/- cavalcaderef08.Pack: what the call does. -/
import Derived.Test.YtbelofikknfoaaaCKHead
namespace Go.Proofs.Ytbelofikknfoaaa
open Go.RowKit
set_option maxHeartbeats 2000000
set_option maxRecDepth 4000
/-- what Pack tells -/
def packV (s : ByteArray) : Value := if 32768 < s.size then .tuple #[.string ByteArray.empty, .int .i64 3] else .tuple #[.string (bstr (packL s.data.toList)), .int .i64 0]
theorem rpack8_any (s : ByteArray) (w : World) (hs : s.size ≤ 140737488355328) :
    Calls Try.prog 11 #[.string s] w fun e w' => e = .returned (packV s) ∧ Below w.heap.size w w' := by
  by_cases hbig : 32768 < s.size
  · have d0 : decide (32768 < (s.size : Int)) = true := decide_eq_true (by omega)
    rw [packV, if_pos hbig]
    clear hbig
    go_enter Try.func11, Try.ntmps11
    go_wp2_with fail
    go_ret2
    exact ⟨rfl, Below.refl _ _⟩
  · have d0 : decide (32768 < (s.size : Int)) = false := decide_eq_false (by omega)
    rw [packV, if_neg hbig]
    obtain ⟨L, hL⟩ : ∃ L, L = s.data.toList := ⟨_, rfl⟩
    have hLs : L.length = s.size := by rw [hL]; rfl
    have hway := fun k w h => way_any k s w h (by omega)
    have hhead := fun k w h => head_any k s w h (by omega)
    rw [← hL] at hway hhead ⊢
    have HW := Lib.hid hway
    have HH := Lib.hid hhead
    have hb32 : s.size ≤ 32768 := by omega
    have HS : Hid (bstr L = s) := show _ = _ from by rw [hL]; rfl
    have HLs := Lib.hid hLs
    clear hway hhead hbig hL hLs
    go_enter Try.func11, Try.ntmps11
    go_wp2_with fail
    go_loopg [4, 5, 6] 3 (fun gk wy bs i wr => ∃ (k n : Nat) (B : ByteArray), k + gk = 3 ∧ n ≤ 3 ∧ i = .int .i64 (k + 1 : Nat) ∧ wy = .int .i64 n ∧ bs = .string B ∧ Hid (bestW L k = (n, B.data.toList)) ∧ Hid (Below w.heap.size w wr))
    case atStart => exact ⟨0, 0, s, by omega, by omega, rfl, rfl, rfl, show _ = _ from by rw [← HS.out]; rfl, Below.refl _ _⟩
    case round =>
      obtain ⟨k, n, B, hk, hn3, rfl, rfl, rfl, HBW, HB⟩ := hrel
      obtain ⟨k1, hk1⟩ : ∃ x, x = k + 1 := ⟨_, rfl⟩
      rw [← hk1]
      by_cases hlt : k1 ≤ 3
      · have d1 : decide ((k1 : Int) ≤ 3) = true := decide_eq_true (by omega)
        have e1 : IntKind.i64.wrap ((k1 : Int) + 1) = ((k1 + 1 : Nat) : Int) := by rw [IntWalk.i64_in _ (by omega)]; omega
        obtain ⟨T, hT⟩ : ∃ T, T = bstr (wayL k1 L) := ⟨_, rfl⟩
        have hc := Lib.hid (HW.out k1 wr hlt)
        rw [← hT] at hc
        have HT := Lib.hid hT
        have HK1 := Lib.hid hk1
        have hk1b : k1 ≤ k + 1 := by omega
        have hk1c : k + 1 ≤ k1 := by omega
        by_cases hsh : T.size < B.size
        · have d2 : decide ((T.size : Int) < B.size) = true := decide_eq_true (by omega)
          have d2' : decide (T.size < B.size) = true := decide_eq_true hsh
          have HN : Hid (bestW L k1 = (k1, T.data.toList)) := show _ = _ from by
            rw [HK1.out, bestW, HBW.out, ← HK1.out]
            have h1 : T.data.toList = wayL k1 L := by rw [HT.out]; rfl
            rw [← h1, if_pos (show T.data.toList.length < (n, B.data.toList).2.length from hsh)]
          clear hT hk1
          go_wp2_with fail
          refine (hc.out).mono ?_
          rintro e w2 ⟨rfl, hb2⟩
          have HB2 := Lib.hid (bw_call HB.out hb2)
          clear hb2
          go_wp2_with fail
          go_roundg (gk - 1)
          case measure => omega
          case rel => exact ⟨k1, k1, T, by omega, by omega, rfl, rfl, rfl, HN, HB2⟩
        · have d2 : decide ((T.size : Int) < B.size) = false := decide_eq_false (by omega)
          have d2' : decide (T.size < B.size) = false := decide_eq_false hsh
          have HN : Hid (bestW L k1 = (n, B.data.toList)) := show _ = _ from by
            rw [HK1.out, bestW, HBW.out, ← HK1.out]
            have h1 : T.data.toList = wayL k1 L := by rw [HT.out]; rfl
            rw [← h1, if_neg (show ¬ T.data.toList.length < (n, B.data.toList).2.length from hsh)]
          clear hT hk1
          go_wp2_with fail
          refine (hc.out).mono ?_
          rintro e w2 ⟨rfl, hb2⟩
          have HB2 := Lib.hid (bw_call HB.out hb2)
          clear hb2
          go_wp2_with fail
          go_roundg (gk - 1)
          case measure => omega
          case rel => exact ⟨k1, n, B, by omega, by omega, rfl, rfl, rfl, HN, HB2⟩
      · have d1 : decide ((k1 : Int) ≤ 3) = false := decide_eq_false (by omega)
        obtain rfl : k = 3 := by omega
        obtain ⟨Hd, hHd⟩ : ∃ Hd, Hd = bstr (headL n L) := ⟨_, rfl⟩
        have hh := Lib.hid (HH.out n wr hn3)
        rw [← hHd] at hh
        obtain ⟨R, hR⟩ : ∃ R, Hd ++ B = R := ⟨_, rfl⟩
        have HRR : Hid (R = bstr (packL L)) := show _ = _ from by
          rw [← hR, hHd, packL, HBW.out, ← bstr_append]
          rfl
        have hz : Hd.size + B.size ≤ 9223372036854775807 := by
          have h1 := (bestW_is L 3).2.2
          rw [HBW.out] at h1
          have h2 := HLs.out
          have h3 : B.data.toList.length = B.size := rfl
          have h4 := numB_length_le 8 L.length (by omega)
          simp only at h1
          rw [hHd, bstr_size, headL, List.length_cons, List.length_append, be32_length, numEnc_length]
          omega
        clear hHd hk1
        go_wp2_with fail
        refine (hh.out).mono ?_
        rintro e w2 ⟨rfl, hb2⟩
        have HB2 := Lib.hid (bw_call HB.out hb2)
        clear hb2
        go_wp2_with fail
        go_ret2
        exact ⟨by rw [← HRR.out]; rfl, HB2.out⟩
end Go.Proofs.Ytbelofikknfoaaa
