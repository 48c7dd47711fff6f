/- crate.Open: what the call does. -/
import Derived.Test.YtbelofikknfoaaaCOpenP
import Derived.Deep.QuietTactic
import Derived.BigQuiet
import Derived.Outline
namespace Go.Proofs.Ytbelofikknfoaaa
open Go.RowKit
set_option maxHeartbeats 4000000
set_option maxRecDepth 4000
theorem copen_any (s : ByteArray) (most : Int) (w : World) (hs : s.size ≤ 140737488351232) :
    Calls Try.prog 14 #[.string s, .int .i64 most] w fun e w' => e = .returned (unV (openL s.data.toList most)) ∧ Below w.heap.size w w' := by
  obtain ⟨R, hR⟩ : ∃ R, R = openL s.data.toList most := ⟨_, rfl⟩
  rw [← hR]
  have HR := Lib.hid hR
  clear hR
  by_cases hm : most < 0
  · have d0 : decide (most < 0) = true := decide_eq_true hm
    have HF : Hid (R = .error 2) := show _ = _ from by rw [HR.out, openL_neg _ hm]
    clear hm
    go_enter Try.func14, Try.ntmps14
    go_wp2_with fail
    go_ret2
    exact ⟨by rw [HF.out]; rfl, Below.refl _ _⟩
  · obtain ⟨mo, rfl⟩ : ∃ m : Nat, most = m := ⟨most.toNat, by omega⟩
    have d0 : decide ((mo : Int) < 0) = false := decide_eq_false hm
    by_cases h0 : s.size = 0
    · have hse : s.toList.isEmpty = true := by rw [ByteArray.toList_eq]; exact List.isEmpty_iff.2 (List.length_eq_zero_iff.1 h0)
      have HF : Hid (R = .error 5) := show _ = _ from by rw [HR.out, show s.data.toList = [] from List.length_eq_zero_iff.1 h0, openL_nil hm]
      clear hm h0
      go_enter Try.func14, Try.ntmps14
      go_wp2_with fail
      go_ret2
      exact ⟨by rw [HF.out]; rfl, Below.refl _ _⟩
    · have hp : 0 < s.size := by omega
      have hse : s.toList.isEmpty = false := by
        rw [ByteArray.toList_eq]
        cases h : s.data.toList with
        | nil => exact absurd (congrArg List.length h) h0
        | cons a l => rfl
      have HO : Hid (R = if 3 < (s[0]'hp).toNat then .error 6 else match rdN (s.data.toList.drop 1) with | .error e => .error e | .ok (n, k) => if (mo : Int) < n ∨ 32768 < n then .error 3 else if (s.data.toList.drop 1).length < k + 4 then .error 5 else openT (s[0]'hp).toNat (s.data.toList.drop 1) n k) := show _ = _ from by
        rw [HR.out, openL_at hp hm]
        rfl
      clear h0 hm
      by_cases h3 : 3 < (s[0]'hp).toNat
      · have d1 : decide (3 < ((s[0]'hp).toNat : Int)) = true := decide_eq_true (by omega)
        have HF : Hid (R = .error 6) := show _ = _ from by rw [HO.out, if_pos h3]
        go_enter Try.func14, Try.ntmps14
        go_wp2_with fail
        go_ret2
        exact ⟨by rw [HF.out]; rfl, Below.refl _ _⟩
      · have d1 : decide (3 < ((s[0]'hp).toNat : Int)) = false := decide_eq_false (by omega)
        have hrn := fun w => rn_any s 1 w (by omega) (by omega)
        cases hr : rdN (s.data.toList.drop 1) with
        | error er =>
          have HF : Hid (R = .error er) := show _ = _ from by rw [HO.out, if_neg h3, hr]
          have he : (er != 0) = true := by rcases rdN_err hr with rfl | rfl <;> decide
          rw [hr] at hrn
          have HRN := Lib.hid hrn
          clear hr hrn
          go_enter Try.func14, Try.ntmps14
          go_wp2_with fail
          refine (HRN.out _).mono ?_
          rintro e w1 ⟨rfl, rfl⟩
          simp only [rnV]
          go_wp2_with fail
          go_ret2
          exact ⟨by rw [HF.out]; rfl, Below.refl _ _⟩
        | ok p =>
          obtain ⟨n, k⟩ := p
          have hl1 : (s.data.toList.drop 1).length = s.size - 1 := by rw [List.length_drop]; rfl
          have hb := rdN_ok hr
          rw [hl1] at hb
          obtain ⟨a, ha⟩ : ∃ a, a = 1 + k := ⟨_, rfl⟩
          have HO2 : Hid (R = if (mo : Int) < n ∨ 32768 < n then .error 3 else if s.size < a + 4 then .error 5 else openT (s[0]'hp).toNat (s.data.toList.drop 1) n k) := show _ = _ from by
            rw [HO.out, if_neg h3, hr, hl1]
            simp only [show (s.size - 1 < k + 4) = (s.size < a + 4) from propext ⟨fun h => by omega, fun h => by omega⟩]
          rw [hr] at hrn
          have hrn2 : ∀ w, Calls Try.prog 21 #[.string s, .int .i64 1] w fun e w' => e = .returned (.tuple #[.int .i64 n, .int .i64 a, .int .i64 0]) ∧ w' = w := fun w => by rw [ha]; exact hrn w
          have HRN := Lib.hid hrn2
          have HA := Lib.hid ha
          have ha1 : 1 + k ≤ a := by omega
          have ha2 : a ≤ 1 + k := by omega
          clear hr hrn hrn2 ha hl1
          by_cases h4 : (mo : Int) < n
          · have d2 : decide ((mo : Int) < n) = true := decide_eq_true h4
            have d2' : decide (mo < n) = true := decide_eq_true (by omega)
            have HF : Hid (R = .error 3) := show _ = _ from by rw [HO2.out, if_pos (.inl h4)]
            clear h4
            go_enter Try.func14, Try.ntmps14
            go_wp2_with fail
            refine (HRN.out _).mono ?_
            rintro e w1 ⟨rfl, rfl⟩
            go_wp2_with fail
            go_ret2
            exact ⟨by rw [HF.out]; rfl, Below.refl _ _⟩
          · have d2 : decide ((mo : Int) < n) = false := decide_eq_false h4
            have d2' : decide (mo < n) = false := decide_eq_false (by omega)
            by_cases h5 : 32768 < n
            · have d3 : decide (32768 < (n : Int)) = true := decide_eq_true (by omega)
              have d3' : decide (32768 < n) = true := decide_eq_true h5
              have HF : Hid (R = .error 3) := show _ = _ from by rw [HO2.out, if_pos (.inr h5)]
              go_enter Try.func14, Try.ntmps14
              go_wp2_with fail
              refine (HRN.out _).mono ?_
              rintro e w1 ⟨rfl, rfl⟩
              go_wp2_with fail
              go_ret2
              exact ⟨by rw [HF.out]; rfl, Below.refl _ _⟩
            · have d3 : decide (32768 < (n : Int)) = false := decide_eq_false (by omega)
              have d3' : decide (32768 < n) = false := decide_eq_false h5
              obtain ⟨lf, hlf⟩ : ∃ x, x = s.size - a := ⟨_, rfl⟩
              have e1 : IntKind.i64.wrap ((s.size : Int) - a) = (lf : Int) := by rw [IntWalk.i64_in _ (by omega)]; omega
              by_cases h6 : lf < 4
              · have d4 : decide ((lf : Int) < 4) = true := decide_eq_true (by omega)
                have d4' : decide (lf < 4) = true := decide_eq_true h6
                have HF : Hid (R = .error 5) := show _ = _ from by rw [HO2.out, if_neg (by omega), if_pos (by omega)]
                clear hlf
                go_enter Try.func14, Try.ntmps14
                go_wp2_with fail
                refine (HRN.out _).mono ?_
                rintro e w1 ⟨rfl, rfl⟩
                go_wp2_with fail
                go_ret2
                exact ⟨by rw [HF.out]; rfl, Below.refl _ _⟩
              · have d4 : decide ((lf : Int) < 4) = false := decide_eq_false (by omega)
                have d4' : decide (lf < 4) = false := decide_eq_false h6
                have ha4 : a + 4 ≤ s.size := by omega
                have HF : Hid (R = openT (s[0]'hp).toNat (s.data.toList.drop 1) n k) := show _ = _ from by rw [HO2.out, if_neg (by omega), if_neg (by omega)]
                clear hlf
                obtain ⟨i1, hi1⟩ : ∃ x, x = a + 1 := ⟨_, rfl⟩
                obtain ⟨i2, hi2⟩ : ∃ x, x = a + 2 := ⟨_, rfl⟩
                obtain ⟨i3, hi3⟩ : ∃ x, x = a + 3 := ⟨_, rfl⟩
                obtain ⟨a4, ha44⟩ : ∃ x, x = a + 4 := ⟨_, rfl⟩
                have g1 : IntKind.i64.wrap ((a : Int) + 1) = (i1 : Int) := by rw [IntWalk.i64_in _ (by omega)]; omega
                have g2 : IntKind.i64.wrap ((a : Int) + 2) = (i2 : Int) := by rw [IntWalk.i64_in _ (by omega)]; omega
                have g3 : IntKind.i64.wrap ((a : Int) + 3) = (i3 : Int) := by rw [IntWalk.i64_in _ (by omega)]; omega
                have g4 : IntKind.i64.wrap ((a : Int) + 4) = (a4 : Int) := by rw [IntWalk.i64_in _ (by omega)]; omega
                have l0 : a < s.size := by omega
                have l1 : i1 < s.size := by omega
                have l2 : i2 < s.size := by omega
                have l3 : i3 < s.size := by omega
                have m0 : (a : Int) < s.size := by omega
                have m1 : (i1 : Int) < s.size := by omega
                have m2 : (i2 : Int) < s.size := by omega
                have m3 : (i3 : Int) < s.size := by omega
                have m4 : (a4 : Int) ≤ s.size := by omega
                have p0 : (0 : Int) ≤ a := by omega
                have p1 : (0 : Int) ≤ i1 := by omega
                have p2 : (0 : Int) ≤ i2 := by omega
                have p3 : (0 : Int) ≤ i3 := by omega
                have p4 : (0 : Int) ≤ a4 := by omega
                have b0 := byte_lt (s[a]'l0)
                have b1 := byte_lt (s[i1]'l1)
                have b2 := byte_lt (s[i2]'l2)
                have b3 := byte_lt (s[i3]'l3)
                have b9 := byte_lt (s[0]'hp)
                obtain ⟨X, hX⟩ : ∃ X, X = (s[a]'l0).toNat * 16777216 + (s[i1]'l1).toNat * 65536 + (s[i2]'l2).toNat * 256 + (s[i3]'l3).toNat := ⟨_, rfl⟩
                have hor : bits .or .u32 (bits .or .u32 (bits .or .u32 (((s[a]'l0).toNat : Int) * 16777216) (((s[i1]'l1).toNat : Int) * 65536)) (((s[i2]'l2).toNat : Int) * 256)) ((s[i3]'l3).toNat : Int) = (X : Int) := by
                  rw [word_or _ _ _ _ (by omega) (by omega) (by omega) (by omega)]
                  omega
                have hXe : be4 (((s.data.toList.drop 1).drop k).take 4) = X := by
                  have h := be4_at (s := s) (k := a) (by omega)
                  rw [List.drop_drop, show 1 + k = a by omega, h, hX]
                  subst hi1 hi2 hi3
                  rfl
                have hEx : (s.extract a4 s.size).data.toList = (s.data.toList.drop 1).drop (k + 4) := by
                  have hl : s.data.toList.length = s.size := rfl
                  rw [ByteArray.data_extract, Array.toList_extract, List.drop_drop, show 1 + (k + 4) = a4 by omega]
                  show List.take (s.size - a4) (s.data.toList.drop a4) = _
                  rw [List.take_of_length_le (by rw [List.length_drop, hl]; exact Nat.le_refl _)]
                obtain ⟨E, hE⟩ : ∃ E, E = s.extract a4 s.size := ⟨_, rfl⟩
                have hEs : E.size ≤ 140737488351232 := by rw [hE, ByteArray.size_extract]; omega
                rw [← hE] at hEx
                have hun := fun w => unpack8_any (s[0]'hp).toNat E n w (by omega) hEs (by omega)
                rw [hEx] at hun
                have HUN := Lib.hid hun
                have HXE := Lib.hid hXe
                have hEx2 : s.extract a4 s.size = E := hE.symm
                have hEl : ((s.data.toList.drop 1).drop (k + 4)).length ≤ 140737488351232 := by rw [← hEx]; exact hEs
                have hX32 : X < 4294967296 := by omega
                clear hun hXe hEx hE hX hi1 hi2 hi3 ha44
                cases hu : unpL (s[0]'hp).toNat ((s.data.toList.drop 1).drop (k + 4)) n with
                | error er =>
                  have HF2 : Hid (R = .error er) := show _ = _ from by rw [HF.out, openT, hu]
                  have he : (er != 0) = true := by rcases unpL_err hu with rfl | rfl | rfl <;> decide
                  have HU2 : Hid (∀ w, Calls Try.prog 22 #[.int .i64 ((s[0]'hp).toNat : Nat), .string E, .int .i64 n] w fun e w' => e = .returned (.tuple #[.string ByteArray.empty, .int .i64 er]) ∧ Below w.heap.size w w') := show ∀ w, _ from fun w => by
                    have h := HUN.out w
                    rw [hu] at h
                    exact h
                  clear hu hEl
                  go_enter Try.func14, Try.ntmps14
                  go_wp2_with fail
                  refine (HRN.out _).mono ?_
                  rintro e w1 ⟨rfl, rfl⟩
                  go_wp2_with fail
                  go_quiet (fail)
                  go_wp2_with fail
                  refine wp_region_classW (fun W => Below w1.heap.size w1 W) (by kernel_rfl) (by kernel_rfl) ((bw_drewN (Below.refl w1.heap.size w1) nq).drew) ?_
                  refine WQ.gen (v := ?_) (by kernel_rfl) ?_ ?_
                  rotate_left
                  · intro W hC
                    go_simp
                    try with_reducible rfl
                  refine WQ.eq (a' := ?_) ?_ ?_
                  rotate_left
                  · try simp only [Act.put, List.setIfInBounds_toArray, List.set_cons_zero, List.set_cons_succ]
                    exact rfl
                  refine WQ.gen (v := ?_) (by kernel_rfl) ?_ ?_
                  rotate_left
                  · intro W hC
                    go_simp
                    try with_reducible rfl
                  refine WQ.eq (a' := ?_) ?_ ?_
                  rotate_left
                  · try simp only [Act.put, List.setIfInBounds_toArray, List.set_cons_zero, List.set_cons_succ]
                    exact rfl
                  refine WQ.gen (v := ?_) (by kernel_rfl) ?_ ?_
                  rotate_left
                  · intro W hC
                    go_simp
                    try with_reducible rfl
                  refine WQ.eq (a' := ?_) ?_ ?_
                  rotate_left
                  · try simp only [Act.put, List.setIfInBounds_toArray, List.set_cons_zero, List.set_cons_succ]
                    exact rfl
                  refine WQ.gen (v := ?_) (by kernel_rfl) ?_ ?_
                  rotate_left
                  · intro W hC
                    go_simp
                    try with_reducible rfl
                  refine WQ.eq (a' := ?_) ?_ ?_
                  rotate_left
                  · try simp only [Act.put, List.setIfInBounds_toArray, List.set_cons_zero, List.set_cons_succ]
                    exact rfl
                  refine WQ.gen (v := ?_) (by kernel_rfl) ?_ ?_
                  rotate_left
                  · intro W hC
                    go_simp
                    try with_reducible rfl
                  refine WQ.eq (a' := ?_) ?_ ?_
                  rotate_left
                  · try simp only [Act.put, List.setIfInBounds_toArray, List.set_cons_zero, List.set_cons_succ]
                    exact rfl
                  refine WQ.gen (v := ?_) (by kernel_rfl) ?_ ?_
                  rotate_left
                  · intro W hC
                    go_simp
                    try with_reducible rfl
                  refine WQ.eq (a' := ?_) ?_ ?_
                  rotate_left
                  · try simp only [Act.put, List.setIfInBounds_toArray, List.set_cons_zero, List.set_cons_succ]
                    exact rfl
                  refine WQ.gen (v := ?_) (by kernel_rfl) ?_ ?_
                  rotate_left
                  · intro W hC
                    go_simp
                    try with_reducible rfl
                  refine WQ.eq (a' := ?_) ?_ ?_
                  rotate_left
                  · try simp only [Act.put, List.setIfInBounds_toArray, List.set_cons_zero, List.set_cons_succ]
                    exact rfl
                  refine WQ.gen (v := ?_) (by kernel_rfl) ?_ ?_
                  rotate_left
                  · intro W hC
                    go_simp
                    try with_reducible rfl
                  refine WQ.eq (a' := ?_) ?_ ?_
                  rotate_left
                  · try simp only [Act.put, List.setIfInBounds_toArray, List.set_cons_zero, List.set_cons_succ]
                    exact rfl
                  refine WQ.call (f := 22) (args := #[.int .i64 ((s[0]'hp).toNat : Nat), .string E, .int .i64 n]) (v := .tuple #[.string ByteArray.empty, .int .i64 er]) (by kernel_rfl) (fun W hC => ?_) (fun W hC => ?_) ?_
                  · go_simp
                    exact IntWalk.i64_in _ (by omega)
                  · exact (HU2.out W).mono fun e w' h => ⟨h.1, bw_call hC h.2⟩
                  refine WQ.eq (a' := ?_) ?_ ?_
                  rotate_left
                  · try simp only [Act.put, List.setIfInBounds_toArray, List.set_cons_zero, List.set_cons_succ]
                    exact rfl
                  refine WQ.gen (v := ?_) (by kernel_rfl) ?_ ?_
                  rotate_left
                  · intro W hC
                    go_simp
                    try with_reducible rfl
                  refine WQ.eq (a' := ?_) ?_ ?_
                  rotate_left
                  · try simp only [Act.put, List.setIfInBounds_toArray, List.set_cons_zero, List.set_cons_succ]
                    exact rfl
                  refine WQ.gen (v := ?_) (by kernel_rfl) ?_ ?_
                  rotate_left
                  · intro W hC
                    go_simp
                    try with_reducible rfl
                  refine WQ.eq (a' := ?_) ?_ ?_
                  rotate_left
                  · try simp only [Act.put, List.setIfInBounds_toArray, List.set_cons_zero, List.set_cons_succ]
                    exact rfl
                  refine WQ.gen (v := ?_) (by kernel_rfl) ?_ ?_
                  rotate_left
                  · intro W hC
                    go_simp
                    try with_reducible rfl
                  refine WQ.eq (a' := ?_) ?_ ?_
                  rotate_left
                  · try simp only [Act.put, List.setIfInBounds_toArray, List.set_cons_zero, List.set_cons_succ]
                    exact rfl
                  refine WQ.gen (v := ?_) (by kernel_rfl) ?_ ?_
                  rotate_left
                  · intro W hC
                    go_simp
                    try with_reducible rfl
                  refine WQ.eq (a' := ?_) ?_ ?_
                  rotate_left
                  · try simp only [Act.put, List.setIfInBounds_toArray, List.set_cons_zero, List.set_cons_succ]
                    exact rfl
                  refine WQ.gen (v := ?_) (by kernel_rfl) ?_ ?_
                  rotate_left
                  · intro W hC
                    go_simp
                    try with_reducible rfl
                  refine WQ.eq (a' := ?_) ?_ ?_
                  rotate_left
                  · try simp only [Act.put, List.setIfInBounds_toArray, List.set_cons_zero, List.set_cons_succ]
                    exact rfl
                  refine WQ.nil ?_
                  intro w2 hB2
                  have HB2 := Lib.hid hB2
                  clear hB2
                  go_wp2_with fail
                  go_ret2
                  exact ⟨by rw [HF2.out]; rfl, HB2.out⟩
                | ok t =>
                  have htl := unpL_len hu (by omega) hEl
                  obtain ⟨T, hT⟩ : ∃ T, T = bstr t := ⟨_, rfl⟩
                  have hTs : T.size = t.length := by rw [hT]; rfl
                  have hsum := fun w => sum_any T w (by omega)
                  rw [show T.data.toList = t by rw [hT]; rfl] at hsum
                  obtain ⟨y, hy⟩ : ∃ y, y = crc t := ⟨_, rfl⟩
                  rw [← hy] at hsum
                  have HSM := Lib.hid hsum
                  have HU2 : Hid (∀ w, Calls Try.prog 22 #[.int .i64 ((s[0]'hp).toNat : Nat), .string E, .int .i64 n] w fun e w' => e = .returned (.tuple #[.string T, .int .i64 0]) ∧ Below w.heap.size w w') := show ∀ w, _ from fun w => by
                    have h := HUN.out w
                    rw [hu] at h
                    rw [hT]
                    exact h
                  have HF2 : Hid (R = if T.size ≠ n then .error 6 else if y ≠ X then .error 7 else .ok t) := show _ = _ from by
                    rw [HF.out, openT, hu]
                    show (if t.length ≠ n then Except.error 6 else if crc t ≠ be4 (((s.data.toList.drop 1).drop k).take 4) then Except.error 7 else Except.ok t) = _
                    rw [HXE.out, ← hy, hTs]
                  have HT := Lib.hid hT
                  clear hu hEl htl hTs hsum hy hT
                  by_cases h7 : T.size = n
                  · have d5 : ((T.size : Int) != n) = false := by rw [bne_eq_false_iff_eq]; omega
                    by_cases h8 : y = X
                    · have d6 : ((y : Int) != X) = false := by rw [bne_eq_false_iff_eq]; omega
                      have HF3 : Hid (R = .ok t) := show _ = _ from by rw [HF2.out, if_neg (by simpa using h7), if_neg (by simpa using h8)]
                      clear h7 h8
                      go_enter Try.func14, Try.ntmps14
                      go_wp2_with fail
                      refine (HRN.out _).mono ?_
                      rintro e w1 ⟨rfl, rfl⟩
                      go_wp2_with fail
                      go_quiet (fail)
                      go_wp2_with fail
                      refine wp_region_classW (fun W => Below w1.heap.size w1 W) (by kernel_rfl) (by kernel_rfl) ((bw_drewN (Below.refl w1.heap.size w1) nq).drew) ?_
                      refine WQ.gen (v := ?_) (by kernel_rfl) ?_ ?_
                      rotate_left
                      · intro W hC
                        go_simp
                        try with_reducible rfl
                      refine WQ.eq (a' := ?_) ?_ ?_
                      rotate_left
                      · try simp only [Act.put, List.setIfInBounds_toArray, List.set_cons_zero, List.set_cons_succ]
                        exact rfl
                      refine WQ.gen (v := ?_) (by kernel_rfl) ?_ ?_
                      rotate_left
                      · intro W hC
                        go_simp
                        try with_reducible rfl
                      refine WQ.eq (a' := ?_) ?_ ?_
                      rotate_left
                      · try simp only [Act.put, List.setIfInBounds_toArray, List.set_cons_zero, List.set_cons_succ]
                        exact rfl
                      refine WQ.gen (v := ?_) (by kernel_rfl) ?_ ?_
                      rotate_left
                      · intro W hC
                        go_simp
                        try with_reducible rfl
                      refine WQ.eq (a' := ?_) ?_ ?_
                      rotate_left
                      · try simp only [Act.put, List.setIfInBounds_toArray, List.set_cons_zero, List.set_cons_succ]
                        exact rfl
                      refine WQ.gen (v := ?_) (by kernel_rfl) ?_ ?_
                      rotate_left
                      · intro W hC
                        go_simp
                        try with_reducible rfl
                      refine WQ.eq (a' := ?_) ?_ ?_
                      rotate_left
                      · try simp only [Act.put, List.setIfInBounds_toArray, List.set_cons_zero, List.set_cons_succ]
                        exact rfl
                      refine WQ.gen (v := ?_) (by kernel_rfl) ?_ ?_
                      rotate_left
                      · intro W hC
                        go_simp
                        try with_reducible rfl
                      refine WQ.eq (a' := ?_) ?_ ?_
                      rotate_left
                      · try simp only [Act.put, List.setIfInBounds_toArray, List.set_cons_zero, List.set_cons_succ]
                        exact rfl
                      refine WQ.gen (v := ?_) (by kernel_rfl) ?_ ?_
                      rotate_left
                      · intro W hC
                        go_simp
                        try with_reducible rfl
                      refine WQ.eq (a' := ?_) ?_ ?_
                      rotate_left
                      · try simp only [Act.put, List.setIfInBounds_toArray, List.set_cons_zero, List.set_cons_succ]
                        exact rfl
                      refine WQ.gen (v := ?_) (by kernel_rfl) ?_ ?_
                      rotate_left
                      · intro W hC
                        go_simp
                        try with_reducible rfl
                      refine WQ.eq (a' := ?_) ?_ ?_
                      rotate_left
                      · try simp only [Act.put, List.setIfInBounds_toArray, List.set_cons_zero, List.set_cons_succ]
                        exact rfl
                      refine WQ.gen (v := ?_) (by kernel_rfl) ?_ ?_
                      rotate_left
                      · intro W hC
                        go_simp
                        try with_reducible rfl
                      refine WQ.eq (a' := ?_) ?_ ?_
                      rotate_left
                      · try simp only [Act.put, List.setIfInBounds_toArray, List.set_cons_zero, List.set_cons_succ]
                        exact rfl
                      refine WQ.call (f := 22) (args := #[.int .i64 ((s[0]'hp).toNat : Nat), .string E, .int .i64 n]) (v := .tuple #[.string T, .int .i64 0]) (by kernel_rfl) (fun W hC => ?_) (fun W hC => ?_) ?_
                      · go_simp
                        exact IntWalk.i64_in _ (by omega)
                      · exact (HU2.out W).mono fun e w' h => ⟨h.1, bw_call hC h.2⟩
                      refine WQ.eq (a' := ?_) ?_ ?_
                      rotate_left
                      · try simp only [Act.put, List.setIfInBounds_toArray, List.set_cons_zero, List.set_cons_succ]
                        exact rfl
                      refine WQ.gen (v := ?_) (by kernel_rfl) ?_ ?_
                      rotate_left
                      · intro W hC
                        go_simp
                        try with_reducible rfl
                      refine WQ.eq (a' := ?_) ?_ ?_
                      rotate_left
                      · try simp only [Act.put, List.setIfInBounds_toArray, List.set_cons_zero, List.set_cons_succ]
                        exact rfl
                      refine WQ.gen (v := ?_) (by kernel_rfl) ?_ ?_
                      rotate_left
                      · intro W hC
                        go_simp
                        try with_reducible rfl
                      refine WQ.eq (a' := ?_) ?_ ?_
                      rotate_left
                      · try simp only [Act.put, List.setIfInBounds_toArray, List.set_cons_zero, List.set_cons_succ]
                        exact rfl
                      refine WQ.gen (v := ?_) (by kernel_rfl) ?_ ?_
                      rotate_left
                      · intro W hC
                        go_simp
                        try with_reducible rfl
                      refine WQ.eq (a' := ?_) ?_ ?_
                      rotate_left
                      · try simp only [Act.put, List.setIfInBounds_toArray, List.set_cons_zero, List.set_cons_succ]
                        exact rfl
                      refine WQ.gen (v := ?_) (by kernel_rfl) ?_ ?_
                      rotate_left
                      · intro W hC
                        go_simp
                        try with_reducible rfl
                      refine WQ.eq (a' := ?_) ?_ ?_
                      rotate_left
                      · try simp only [Act.put, List.setIfInBounds_toArray, List.set_cons_zero, List.set_cons_succ]
                        exact rfl
                      refine WQ.gen (v := ?_) (by kernel_rfl) ?_ ?_
                      rotate_left
                      · intro W hC
                        go_simp
                        try with_reducible rfl
                      refine WQ.eq (a' := ?_) ?_ ?_
                      rotate_left
                      · try simp only [Act.put, List.setIfInBounds_toArray, List.set_cons_zero, List.set_cons_succ]
                        exact rfl
                      refine WQ.nil ?_
                      intro w2 hB2
                      have HB2 := Lib.hid hB2
                      clear hB2
                      go_wp2_with fail
                      refine (HSM.out _).mono ?_
                      rintro e w3 ⟨rfl, rfl⟩
                      go_wp2_with fail
                      go_ret2
                      exact ⟨by rw [HF3.out, HT.out]; rfl, HB2.out⟩
                    · have d6 : ((y : Int) != X) = true := by rw [bne_iff_ne]; omega
                      have HF3 : Hid (R = .error 7) := show _ = _ from by rw [HF2.out, if_neg (by simpa using h7), if_pos h8]
                      clear h7 h8
                      go_enter Try.func14, Try.ntmps14
                      go_wp2_with fail
                      refine (HRN.out _).mono ?_
                      rintro e w1 ⟨rfl, rfl⟩
                      go_wp2_with fail
                      go_quiet (fail)
                      go_wp2_with fail
                      refine wp_region_classW (fun W => Below w1.heap.size w1 W) (by kernel_rfl) (by kernel_rfl) ((bw_drewN (Below.refl w1.heap.size w1) nq).drew) ?_
                      refine WQ.gen (v := ?_) (by kernel_rfl) ?_ ?_
                      rotate_left
                      · intro W hC
                        go_simp
                        try with_reducible rfl
                      refine WQ.eq (a' := ?_) ?_ ?_
                      rotate_left
                      · try simp only [Act.put, List.setIfInBounds_toArray, List.set_cons_zero, List.set_cons_succ]
                        exact rfl
                      refine WQ.gen (v := ?_) (by kernel_rfl) ?_ ?_
                      rotate_left
                      · intro W hC
                        go_simp
                        try with_reducible rfl
                      refine WQ.eq (a' := ?_) ?_ ?_
                      rotate_left
                      · try simp only [Act.put, List.setIfInBounds_toArray, List.set_cons_zero, List.set_cons_succ]
                        exact rfl
                      refine WQ.gen (v := ?_) (by kernel_rfl) ?_ ?_
                      rotate_left
                      · intro W hC
                        go_simp
                        try with_reducible rfl
                      refine WQ.eq (a' := ?_) ?_ ?_
                      rotate_left
                      · try simp only [Act.put, List.setIfInBounds_toArray, List.set_cons_zero, List.set_cons_succ]
                        exact rfl
                      refine WQ.gen (v := ?_) (by kernel_rfl) ?_ ?_
                      rotate_left
                      · intro W hC
                        go_simp
                        try with_reducible rfl
                      refine WQ.eq (a' := ?_) ?_ ?_
                      rotate_left
                      · try simp only [Act.put, List.setIfInBounds_toArray, List.set_cons_zero, List.set_cons_succ]
                        exact rfl
                      refine WQ.gen (v := ?_) (by kernel_rfl) ?_ ?_
                      rotate_left
                      · intro W hC
                        go_simp
                        try with_reducible rfl
                      refine WQ.eq (a' := ?_) ?_ ?_
                      rotate_left
                      · try simp only [Act.put, List.setIfInBounds_toArray, List.set_cons_zero, List.set_cons_succ]
                        exact rfl
                      refine WQ.gen (v := ?_) (by kernel_rfl) ?_ ?_
                      rotate_left
                      · intro W hC
                        go_simp
                        try with_reducible rfl
                      refine WQ.eq (a' := ?_) ?_ ?_
                      rotate_left
                      · try simp only [Act.put, List.setIfInBounds_toArray, List.set_cons_zero, List.set_cons_succ]
                        exact rfl
                      refine WQ.gen (v := ?_) (by kernel_rfl) ?_ ?_
                      rotate_left
                      · intro W hC
                        go_simp
                        try with_reducible rfl
                      refine WQ.eq (a' := ?_) ?_ ?_
                      rotate_left
                      · try simp only [Act.put, List.setIfInBounds_toArray, List.set_cons_zero, List.set_cons_succ]
                        exact rfl
                      refine WQ.gen (v := ?_) (by kernel_rfl) ?_ ?_
                      rotate_left
                      · intro W hC
                        go_simp
                        try with_reducible rfl
                      refine WQ.eq (a' := ?_) ?_ ?_
                      rotate_left
                      · try simp only [Act.put, List.setIfInBounds_toArray, List.set_cons_zero, List.set_cons_succ]
                        exact rfl
                      refine WQ.call (f := 22) (args := #[.int .i64 ((s[0]'hp).toNat : Nat), .string E, .int .i64 n]) (v := .tuple #[.string T, .int .i64 0]) (by kernel_rfl) (fun W hC => ?_) (fun W hC => ?_) ?_
                      · go_simp
                        exact IntWalk.i64_in _ (by omega)
                      · exact (HU2.out W).mono fun e w' h => ⟨h.1, bw_call hC h.2⟩
                      refine WQ.eq (a' := ?_) ?_ ?_
                      rotate_left
                      · try simp only [Act.put, List.setIfInBounds_toArray, List.set_cons_zero, List.set_cons_succ]
                        exact rfl
                      refine WQ.gen (v := ?_) (by kernel_rfl) ?_ ?_
                      rotate_left
                      · intro W hC
                        go_simp
                        try with_reducible rfl
                      refine WQ.eq (a' := ?_) ?_ ?_
                      rotate_left
                      · try simp only [Act.put, List.setIfInBounds_toArray, List.set_cons_zero, List.set_cons_succ]
                        exact rfl
                      refine WQ.gen (v := ?_) (by kernel_rfl) ?_ ?_
                      rotate_left
                      · intro W hC
                        go_simp
                        try with_reducible rfl
                      refine WQ.eq (a' := ?_) ?_ ?_
                      rotate_left
                      · try simp only [Act.put, List.setIfInBounds_toArray, List.set_cons_zero, List.set_cons_succ]
                        exact rfl
                      refine WQ.gen (v := ?_) (by kernel_rfl) ?_ ?_
                      rotate_left
                      · intro W hC
                        go_simp
                        try with_reducible rfl
                      refine WQ.eq (a' := ?_) ?_ ?_
                      rotate_left
                      · try simp only [Act.put, List.setIfInBounds_toArray, List.set_cons_zero, List.set_cons_succ]
                        exact rfl
                      refine WQ.gen (v := ?_) (by kernel_rfl) ?_ ?_
                      rotate_left
                      · intro W hC
                        go_simp
                        try with_reducible rfl
                      refine WQ.eq (a' := ?_) ?_ ?_
                      rotate_left
                      · try simp only [Act.put, List.setIfInBounds_toArray, List.set_cons_zero, List.set_cons_succ]
                        exact rfl
                      refine WQ.gen (v := ?_) (by kernel_rfl) ?_ ?_
                      rotate_left
                      · intro W hC
                        go_simp
                        try with_reducible rfl
                      refine WQ.eq (a' := ?_) ?_ ?_
                      rotate_left
                      · try simp only [Act.put, List.setIfInBounds_toArray, List.set_cons_zero, List.set_cons_succ]
                        exact rfl
                      refine WQ.nil ?_
                      intro w2 hB2
                      have HB2 := Lib.hid hB2
                      clear hB2
                      go_wp2_with fail
                      refine (HSM.out _).mono ?_
                      rintro e w3 ⟨rfl, rfl⟩
                      go_wp2_with fail
                      go_ret2
                      exact ⟨by rw [HF3.out]; rfl, HB2.out⟩
                  · have d5 : ((T.size : Int) != n) = true := by rw [bne_iff_ne]; omega
                    have HF3 : Hid (R = .error 6) := show _ = _ from by rw [HF2.out, if_pos h7]
                    clear h7
                    go_enter Try.func14, Try.ntmps14
                    go_wp2_with fail
                    refine (HRN.out _).mono ?_
                    rintro e w1 ⟨rfl, rfl⟩
                    go_wp2_with fail
                    go_quiet (fail)
                    go_wp2_with fail
                    refine wp_region_classW (fun W => Below w1.heap.size w1 W) (by kernel_rfl) (by kernel_rfl) ((bw_drewN (Below.refl w1.heap.size w1) nq).drew) ?_
                    refine WQ.gen (v := ?_) (by kernel_rfl) ?_ ?_
                    rotate_left
                    · intro W hC
                      go_simp
                      try with_reducible rfl
                    refine WQ.eq (a' := ?_) ?_ ?_
                    rotate_left
                    · try simp only [Act.put, List.setIfInBounds_toArray, List.set_cons_zero, List.set_cons_succ]
                      exact rfl
                    refine WQ.gen (v := ?_) (by kernel_rfl) ?_ ?_
                    rotate_left
                    · intro W hC
                      go_simp
                      try with_reducible rfl
                    refine WQ.eq (a' := ?_) ?_ ?_
                    rotate_left
                    · try simp only [Act.put, List.setIfInBounds_toArray, List.set_cons_zero, List.set_cons_succ]
                      exact rfl
                    refine WQ.gen (v := ?_) (by kernel_rfl) ?_ ?_
                    rotate_left
                    · intro W hC
                      go_simp
                      try with_reducible rfl
                    refine WQ.eq (a' := ?_) ?_ ?_
                    rotate_left
                    · try simp only [Act.put, List.setIfInBounds_toArray, List.set_cons_zero, List.set_cons_succ]
                      exact rfl
                    refine WQ.gen (v := ?_) (by kernel_rfl) ?_ ?_
                    rotate_left
                    · intro W hC
                      go_simp
                      try with_reducible rfl
                    refine WQ.eq (a' := ?_) ?_ ?_
                    rotate_left
                    · try simp only [Act.put, List.setIfInBounds_toArray, List.set_cons_zero, List.set_cons_succ]
                      exact rfl
                    refine WQ.gen (v := ?_) (by kernel_rfl) ?_ ?_
                    rotate_left
                    · intro W hC
                      go_simp
                      try with_reducible rfl
                    refine WQ.eq (a' := ?_) ?_ ?_
                    rotate_left
                    · try simp only [Act.put, List.setIfInBounds_toArray, List.set_cons_zero, List.set_cons_succ]
                      exact rfl
                    refine WQ.gen (v := ?_) (by kernel_rfl) ?_ ?_
                    rotate_left
                    · intro W hC
                      go_simp
                      try with_reducible rfl
                    refine WQ.eq (a' := ?_) ?_ ?_
                    rotate_left
                    · try simp only [Act.put, List.setIfInBounds_toArray, List.set_cons_zero, List.set_cons_succ]
                      exact rfl
                    refine WQ.gen (v := ?_) (by kernel_rfl) ?_ ?_
                    rotate_left
                    · intro W hC
                      go_simp
                      try with_reducible rfl
                    refine WQ.eq (a' := ?_) ?_ ?_
                    rotate_left
                    · try simp only [Act.put, List.setIfInBounds_toArray, List.set_cons_zero, List.set_cons_succ]
                      exact rfl
                    refine WQ.gen (v := ?_) (by kernel_rfl) ?_ ?_
                    rotate_left
                    · intro W hC
                      go_simp
                      try with_reducible rfl
                    refine WQ.eq (a' := ?_) ?_ ?_
                    rotate_left
                    · try simp only [Act.put, List.setIfInBounds_toArray, List.set_cons_zero, List.set_cons_succ]
                      exact rfl
                    refine WQ.call (f := 22) (args := #[.int .i64 ((s[0]'hp).toNat : Nat), .string E, .int .i64 n]) (v := .tuple #[.string T, .int .i64 0]) (by kernel_rfl) (fun W hC => ?_) (fun W hC => ?_) ?_
                    · go_simp
                      exact IntWalk.i64_in _ (by omega)
                    · exact (HU2.out W).mono fun e w' h => ⟨h.1, bw_call hC h.2⟩
                    refine WQ.eq (a' := ?_) ?_ ?_
                    rotate_left
                    · try simp only [Act.put, List.setIfInBounds_toArray, List.set_cons_zero, List.set_cons_succ]
                      exact rfl
                    refine WQ.gen (v := ?_) (by kernel_rfl) ?_ ?_
                    rotate_left
                    · intro W hC
                      go_simp
                      try with_reducible rfl
                    refine WQ.eq (a' := ?_) ?_ ?_
                    rotate_left
                    · try simp only [Act.put, List.setIfInBounds_toArray, List.set_cons_zero, List.set_cons_succ]
                      exact rfl
                    refine WQ.gen (v := ?_) (by kernel_rfl) ?_ ?_
                    rotate_left
                    · intro W hC
                      go_simp
                      try with_reducible rfl
                    refine WQ.eq (a' := ?_) ?_ ?_
                    rotate_left
                    · try simp only [Act.put, List.setIfInBounds_toArray, List.set_cons_zero, List.set_cons_succ]
                      exact rfl
                    refine WQ.gen (v := ?_) (by kernel_rfl) ?_ ?_
                    rotate_left
                    · intro W hC
                      go_simp
                      try with_reducible rfl
                    refine WQ.eq (a' := ?_) ?_ ?_
                    rotate_left
                    · try simp only [Act.put, List.setIfInBounds_toArray, List.set_cons_zero, List.set_cons_succ]
                      exact rfl
                    refine WQ.gen (v := ?_) (by kernel_rfl) ?_ ?_
                    rotate_left
                    · intro W hC
                      go_simp
                      try with_reducible rfl
                    refine WQ.eq (a' := ?_) ?_ ?_
                    rotate_left
                    · try simp only [Act.put, List.setIfInBounds_toArray, List.set_cons_zero, List.set_cons_succ]
                      exact rfl
                    refine WQ.gen (v := ?_) (by kernel_rfl) ?_ ?_
                    rotate_left
                    · intro W hC
                      go_simp
                      try with_reducible rfl
                    refine WQ.eq (a' := ?_) ?_ ?_
                    rotate_left
                    · try simp only [Act.put, List.setIfInBounds_toArray, List.set_cons_zero, List.set_cons_succ]
                      exact rfl
                    refine WQ.nil ?_
                    intro w2 hB2
                    have HB2 := Lib.hid hB2
                    clear hB2
                    go_wp2_with fail
                    go_ret2
                    exact ⟨by rw [HF3.out]; rfl, HB2.out⟩
end Go.Proofs.Ytbelofikknfoaaa
