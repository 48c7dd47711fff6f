/- cavalcadelaw08.CrateBack, CrateSpoilt: what the calls do. -/
import Derived.Test.YtbelofikknfoaaaCLaws
import Derived.Test.YtbelofikknfoaaaCSpoil
import Derived.Outline
namespace Go.Proofs.Ytbelofikknfoaaa
open Go.RowKit
set_option maxHeartbeats 2000000
set_option maxRecDepth 4000
theorem back8_any (s : ByteArray) (less : Int) (w : World) (hs : s.size ≤ 140737488351232) :
    Calls Try.prog 5 #[.string s, .int .i64 less] w fun e w' => e = .returned (.bool true) ∧ Below w.heap.size w w' := by
  have hw := awake8_any
  obtain ⟨S, hS⟩ : ∃ S, S = bstr (s.data.toList.take 20000) := ⟨_, rfl⟩
  have hS4 : S.size ≤ 20000 := by rw [hS]; exact (take_size s 20000).1
  have hf := fun w => few_any s 20000 w (by omega) (by omega)
  rw [← hS] at hf
  have hSl : S.data.toList.length = S.size := rfl
  obtain ⟨C, hC⟩ : ∃ C, C = bstr (packL S.data.toList) := ⟨_, rfl⟩
  have hp := fun w => cpack_any S w (by omega)
  rw [packV, if_neg (by omega), ← hC] at hp
  have hCz : C.size ≤ S.size + 9 := by
    have := packL_length (l := S.data.toList) (by omega)
    rw [hC, bstr_size]; omega
  have hCl : C.data.toList = packL S.data.toList := by rw [hC]; rfl
  have ho := fun w => copen_any C (S.size : Nat) w (by omega)
  rw [hCl, open_pack (by omega) (by rw [hSl]; exact Int.le_refl _)] at ho
  have ho2 : ∀ w, Calls Try.prog 14 #[.string C, .int .i64 (S.size : Nat)] w fun e w' => e = .returned (.tuple #[.string S, .int .i64 0]) ∧ Below w.heap.size w w' := ho
  have hse : (S.toList == S.toList) = true := beq_self_eq_true _
  obtain ⟨z9, hz9⟩ : ∃ x, x = S.size + 9 := ⟨_, rfl⟩
  have e9 : IntKind.i64.wrap ((S.size : Int) + 9) = (z9 : Int) := by rw [IntWalk.i64_in _ (by omega)]; omega
  have d9 : decide ((z9 : Int) < C.size) = false := decide_eq_false (by omega)
  have d9' : decide (z9 < C.size) = false := decide_eq_false (by omega)
  have HF := Lib.hid hf
  have HP := Lib.hid hp
  have HO := Lib.hid ho2
  have HW := Lib.hid hw
  have HCL := Lib.hid hCl
  clear hf hp ho ho2 hw hS hC hCl hz9
  by_cases h1 : less < 1
  · have d1 : decide (less < 1) = true := decide_eq_true h1
    go_enter Try.func5, Try.ntmps5
    go_wp2_with fail
    refine (HF.out _).mono ?_
    rintro e w1 ⟨rfl, rfl⟩
    go_wp2_with fail
    refine (HP.out _).mono ?_
    rintro e w2 ⟨rfl, hb2⟩
    go_wp2_with fail
    refine (HO.out _).mono ?_
    rintro e w3 ⟨rfl, hb3⟩
    go_wp2_with fail
    refine (HW.out _).mono ?_
    rintro e w4 ⟨rfl, hb4⟩
    have hb := bw_call (bw_call hb2 hb3) hb4
    go_wp2_with fail
    go_ret
    exact ⟨rfl, hb⟩
  · have d1 : decide (less < 1) = false := decide_eq_false h1
    by_cases h2 : (S.size : Int) < less
    · have d2 : decide ((S.size : Int) < less) = true := decide_eq_true h2
      go_enter Try.func5, Try.ntmps5
      go_wp2_with fail
      refine (HF.out _).mono ?_
      rintro e w1 ⟨rfl, rfl⟩
      go_wp2_with fail
      refine (HP.out _).mono ?_
      rintro e w2 ⟨rfl, hb2⟩
      go_wp2_with fail
      refine (HO.out _).mono ?_
      rintro e w3 ⟨rfl, hb3⟩
      go_wp2_with fail
      refine (HW.out _).mono ?_
      rintro e w4 ⟨rfl, hb4⟩
      have hb := bw_call (bw_call hb2 hb3) hb4
      go_wp2_with fail
      go_ret
      exact ⟨rfl, hb⟩
    · have d2 : decide ((S.size : Int) < less) = false := decide_eq_false h2
      obtain ⟨m, hm⟩ : ∃ m : Nat, (m : Int) = S.size - less := ⟨((S.size : Int) - less).toNat, by omega⟩
      have em : IntKind.i64.wrap ((S.size : Int) - less) = (m : Int) := by rw [IntWalk.i64_in _ (by omega)]; omega
      have ho3 := fun w => copen_any C (m : Nat) w (by omega)
      rw [HCL.out, open_less (by omega) (by omega) (by rw [hSl]; omega)] at ho3
      obtain ⟨E, hE⟩ : ∃ E, E = ByteArray.empty := ⟨_, rfl⟩
      have hEe : E.toList.isEmpty = true := by rw [hE, ByteArray.toList_eq]; rfl
      have ho4 : ∀ w, Calls Try.prog 14 #[.string C, .int .i64 (m : Nat)] w fun e w' => e = .returned (.tuple #[.string E, .int .i64 3]) ∧ Below w.heap.size w w' := fun w => by rw [hE]; exact ho3 w
      have HO4 := Lib.hid ho4
      clear ho3 ho4 hE hm
      go_enter Try.func5, Try.ntmps5
      go_wp2_with fail
      refine (HF.out _).mono ?_
      rintro e w1 ⟨rfl, rfl⟩
      go_wp2_with fail
      refine (HP.out _).mono ?_
      rintro e w2 ⟨rfl, hb2⟩
      go_wp2_with fail
      refine (HO.out _).mono ?_
      rintro e w3 ⟨rfl, hb3⟩
      go_wp2_with fail
      refine (HW.out _).mono ?_
      rintro e w4 ⟨rfl, hb4⟩
      go_wp2_with fail
      refine (HO4.out _).mono ?_
      rintro e w5 ⟨rfl, hb5⟩
      have hb := bw_call (bw_call (bw_call hb2 hb3) hb4) hb5
      go_wp2_with fail
      go_ret
      exact ⟨rfl, hb⟩
theorem OwnB.put {B : Nat} {v : Value} {xs : List UInt8} {w : World} (h : OwnB B v xs w) {a : Nat} (ha : a < xs.length) (y : UInt8) : ∃ g c, v = .slice (some ⟨g, 0, none⟩) xs.length c ∧ w.cell? ⟨g, a, none⟩ = some (.int .u8 ((xs[a]'ha).toNat : Int)) ∧ w.frozen? ⟨g, a, none⟩ = false ∧ OwnB B v (xs.set a y) (w.setCell ⟨g, a, none⟩ (.int .u8 (y.toNat : Int))) ∧ B ≤ g := by
  obtain ⟨g, cap, rest, fr, rfl, hg, hh, hcap, hmax, hfr⟩ := h
  have hlen : (u8s xs ++ rest).length = cap := by rw [List.length_append, u8s_length, hcap]
  refine ⟨g, cap, rfl, ?_, ?_, ⟨g, cap, rest, fr, by rw [List.length_set], hg, ?_, by rw [List.length_set]; exact hcap, hmax, hfr⟩, hg⟩
  · rw [cell_of_row w g _ _ _ _ hh, List.getElem?_toArray, List.getElem?_append_left (by rw [u8s_length]; exact ha), u8s_get xs a ha]
  · obtain ⟨lo, hi⟩ := fr
    simp only [World.frozen?, hh, Bool.and_eq_false_iff, decide_eq_false_iff_not]
    simp only at hfr
    rcases hfr with hfr | hfr
    · right; omega
    · left; omega
  · have h2 := set_row (i := a) hh (.int .u8 (y.toNat : Int))
    rw [List.set_append_left _ _ (by rw [u8s_length]; exact ha)] at h2
    have h3 : (u8s xs).set a (.int .u8 (y.toNat : Int)) = u8s (xs.set a y) := by simp [u8s, List.map_set]
    rw [h3] at h2
    exact h2
theorem xor8 (a b : Nat) (ha : a < 256) (hb : b < 256) : bits .xor .u8 (a : Int) (b : Int) = ((a ^^^ b : Nat) : Int) := by
  have ha' : a % 2 ^ IntKind.u8.bits = a := Nat.mod_eq_of_lt ha
  have hb' : b % 2 ^ IntKind.u8.bits = b := Nat.mod_eq_of_lt hb
  have h3 : a ^^^ b < 256 := Nat.xor_lt_two_pow (n := 8) ha hb
  simp only [bits, BitVec.ofInt_natCast, BitVec.toNat_xor, BitVec.toNat_ofNat, ha', hb']
  exact IntWalk.u8_in _ (by omega)
theorem two_pow8 {k : Nat} (hk : k < 8) : (2 : Int) ^ k % 256 = ((2 ^ k : Nat) : Int) ∧ 2 ^ k < 256 ∧ 0 < 2 ^ k := by
  rcases (show k = 0 ∨ k = 1 ∨ k = 2 ∨ k = 3 ∨ k = 4 ∨ k = 5 ∨ k = 6 ∨ k = 7 by omega) with rfl | rfl | rfl | rfl | rfl | rfl | rfl | rfl <;> decide
theorem spoilt8_any (s : ByteArray) (at_ : Int) (y : Nat) (w : World) (hs : s.size ≤ 140737488351232) (hy : y < 256) :
    Calls Try.prog 7 #[.string s, .int .i64 at_, .int .u8 y] w fun e w' => e = .returned (.bool true) ∧ Below w.heap.size w w' := by
  have hw := awake8_any
  obtain ⟨S, hS⟩ : ∃ S, S = bstr (s.data.toList.take 2000) := ⟨_, rfl⟩
  have hS4 : S.size ≤ 2000 := by rw [hS]; exact (take_size s 2000).1
  have hf := fun w => few_any s 2000 w (by omega) (by omega)
  rw [← hS] at hf
  have hSl : S.data.toList.length = S.size := rfl
  have hh := fun w => head_any 0 S w (by omega) (by omega)
  obtain ⟨Hd, hHd⟩ : ∃ Hd, Hd = bstr (headL 0 S.data.toList) := ⟨_, rfl⟩
  rw [← hHd] at hh
  obtain ⟨C, hC⟩ : ∃ C, Hd ++ S = C := ⟨_, rfl⟩
  obtain ⟨X, hX⟩ : ∃ X, X = numEnc S.data.toList.length ++ be32 (crc S.data.toList) ++ S.data.toList := ⟨_, rfl⟩
  have hCX : C.data.toList = 0 :: X := by
    rw [← hC, hHd, ← bstr_of S, bstr_append, bstr_toList, hX, bstr_toList]
    rfl
  have hHs : Hd.size ≤ 20 := by
    have := numB_length_le 2 S.data.toList.length (by omega)
    rw [hHd, bstr_size, headL, List.length_cons, List.length_append, be32_length, numEnc_length]
    omega
  have hCs : C.size ≤ 2020 := by rw [← hC, ByteArray.size_append]; omega
  have hz : Hd.size + S.size ≤ 9223372036854775807 := by omega
  have HF := Lib.hid hf
  have HH := Lib.hid hh
  have HW := Lib.hid hw
  have HCX := Lib.hid hCX
  have HX := Lib.hid hX
  clear hf hh hw hS hHd hX hHs hCX
  go_enter Try.func7, Try.ntmps7
  go_wp2_with fail
  refine (HF.out _).mono ?_
  rintro e w1 ⟨rfl, rfl⟩
  go_wp2_with fail
  refine (HH.out _).mono ?_
  rintro e w2 ⟨rfl, hb2⟩
  obtain ⟨v0, W0, hcv, hO0, hB0⟩ := conv_own w2 C (by unfold maxLen; omega)
  rw [HCX.out] at hO0
  have hB1 := bw_call hb2 hB0
  have hO1 := hO0.mono hb2.size
  have hCl : C.size = X.length + 1 := by
    have h1 : C.data.toList.length = C.size := rfl
    rw [← h1, HCX.out, List.length_cons]
  obtain ⟨n0, hn0⟩ : ∃ n, n = C.size := ⟨_, rfl⟩
  by_cases hin : 1 ≤ at_ ∧ at_ < C.size
  · obtain ⟨i, hi⟩ : ∃ i : Nat, at_ = (i + 1 : Nat) := ⟨(at_ - 1).toNat, by omega⟩
    obtain ⟨a, ha⟩ : ∃ a, a = i + 1 := ⟨_, rfl⟩
    rw [← ha] at hi
    subst hi
    have hal : a < (0 :: X).length := by rw [List.length_cons]; omega
    have hil : i < X.length := by omega
    have dl1 : decide ((a : Int) < 1) = false := decide_eq_false (by omega)
    have dl2 : decide ((n0 : Int) ≤ a) = false := decide_eq_false (by omega)
    obtain ⟨k, hk⟩ : ∃ k, k = y % 8 := ⟨_, rfl⟩
    have ek : (y : Int) % 8 = (k : Int) := by omega
    have hk8 : k < 8 := by omega
    obtain ⟨x, hx⟩ : ∃ x, x = (0 :: X)[a]'hal := ⟨_, rfl⟩
    obtain ⟨g, cap, hv, -⟩ := OwnB.put hO1 hal x
    subst hv
    rw [show (0 :: X).length = n0 by rw [List.length_cons, hn0, hCl]] at hcv hO1
    have HO1 := Lib.hid hO1
    have HB1 := Lib.hid hB1
    have HN0 := Lib.hid hn0
    have HXX := Lib.hid hx
    have hnb : n0 ≤ 2020 := by omega
    have han : a < n0 := by omega
    have hXl : X.length ≤ 2020 := by omega
    have fa0 : (0 : Int) ≤ a := by omega
    have fa1 : (a : Int) < n0 := by omega
    have HA := Lib.hid ha
    clear hB0 hO0 hb2 hin hCl hn0 hk hx hO1 hB1 ha
    go_wp2_with fail
    refine (HW.out _).mono ?_
    rintro e w4 ⟨rfl, hb4⟩
    have HO4 := Lib.hid (HO1.out.below hb4 (Nat.le_refl _))
    have HB4 := Lib.hid (bw_call HB1.out hb4)
    have hp8 := two_pow8 hk8
    obtain ⟨z, hz8⟩ : ∃ z, z = UInt8.ofNat (x.toNat ^^^ 2 ^ k) := ⟨_, rfl⟩
    have hzn : z.toNat = x.toNat ^^^ 2 ^ k := by
      rw [hz8]
      exact UInt8.toNat_ofNat_of_lt' (Nat.xor_lt_two_pow (n := 8) (byte_lt x) hp8.2.1)
    have hxor : bits .xor .u8 (x.toNat : Int) ((2 : Int) ^ k % 256) = (z.toNat : Int) := by rw [hp8.1, xor8 _ _ (byte_lt x) hp8.2.1, hzn]
    have hzx : z ≠ x := fun e => by
      rw [e] at hzn
      have h1 : x.toNat ^^^ 0 = x.toNat ^^^ 2 ^ k := by rw [Nat.xor_zero]; exact hzn
      have h2 := xor_cancel_left h1
      omega
    obtain ⟨g2, c2, hv2, hcl, hfz, hput, hgB⟩ := OwnB.put HO4.out hal z
    obtain rfl : g2 = g := by injection hv2 with h1 h2 h3; injection h1 with h1; injection h1 with h1; exact h1.symm
    rw [← HXX.out] at hcl
    have hcv4 := hput.conv
    have hset : (0 :: X).set a z = 0 :: X.set i z := by rw [HA.out, List.set_cons_succ]
    rw [hset] at hcv4
    obtain ⟨C2, hC2⟩ : ∃ C2, C2 = bstr (0 :: X.set i z) := ⟨_, rfl⟩
    rw [← hC2] at hcv4
    have hxi : x = X[i]'hil := by
      rw [HXX.out]
      simp only [HA.out, List.getElem_cons_succ]
    have herr : IsErr (openR (X.set i z)) := by
      have hX := HX.out
      subst hX
      exact spoilt (by omega) hil (by rw [← hxi]; exact hzx)
    obtain ⟨er, her, her0⟩ := herr
    have ho := fun w => copen_any C2 32768 w (by rw [hC2, bstr_size, List.length_cons, List.length_set]; omega)
    rw [show C2.data.toList = 0 :: X.set i z by rw [hC2]; rfl, openL_zero, her] at ho
    obtain ⟨E, hE⟩ : ∃ E, E = ByteArray.empty := ⟨_, rfl⟩
    have hEe : E.toList.isEmpty = true := by rw [hE, ByteArray.toList_eq]; rfl
    have ho2 : ∀ w, Calls Try.prog 14 #[.string C2, .int .i64 32768] w fun e w' => e = .returned (.tuple #[.string E, .int .i64 er]) ∧ Below w.heap.size w w' := fun w => by rw [hE]; exact ho w
    have HO2 := Lib.hid ho2
    have he0 : (er != 0) = true := by rw [bne_iff_ne]; exact her0
    have HB5 : Hid (Below w1.heap.size w1 (w4.setCell ⟨g2, a, none⟩ (.int .u8 (z.toNat : Int)))) := HB4.out.setCell hgB _
    clear hb4 hv2 hput hset hxi her ho ho2 hC2 hE hz8 hzn hp8 hzx
    go_wp2_with fail
    refine (HO2.out _).mono ?_
    rintro e w5 ⟨rfl, hb5⟩
    have hb := bw_call HB5.out hb5
    go_wp2_with fail
    go_ret
    exact ⟨rfl, hb⟩
  · obtain ⟨g, cap, rest, fr, hv, -⟩ := hO1
    rw [show (0 :: X).length = n0 by rw [List.length_cons, hn0, hCl]] at hv
    subst hv
    have hnb : n0 ≤ 2020 := by omega
    have HB1 := Lib.hid hB1
    have HN0 := Lib.hid hn0
    by_cases h1 : at_ < 1
    · have d1 : decide (at_ < 1) = true := decide_eq_true h1
      clear hB0 hO0 hb2 hin hCl hn0 hB1
      go_wp2_with fail
      refine (HW.out _).mono ?_
      rintro e w4 ⟨rfl, hb4⟩
      go_wp2_with fail
      refine (HW.out _).mono ?_
      rintro e w5 ⟨rfl, hb5⟩
      have hb := bw_call (bw_call HB1.out hb4) hb5
      go_wp2_with fail
      go_ret
      exact ⟨rfl, hb⟩
    · have d1 : decide (at_ < 1) = false := decide_eq_false h1
      have d2 : decide ((n0 : Int) ≤ at_) = true := decide_eq_true (by omega)
      clear hB0 hO0 hb2 hin hCl hn0 hB1
      go_wp2_with fail
      refine (HW.out _).mono ?_
      rintro e w4 ⟨rfl, hb4⟩
      go_wp2_with fail
      refine (HW.out _).mono ?_
      rintro e w5 ⟨rfl, hb5⟩
      have hb := bw_call (bw_call HB1.out hb4) hb5
      go_wp2_with fail
      go_ret
      exact ⟨rfl, hb⟩
end Go.Proofs.Ytbelofikknfoaaa
