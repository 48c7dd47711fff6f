/- crate.Open: at a text's first byte; the errors. crate.Open: what the call does. cavalcaderef08.Open: what the call does. -/
import Derived.Test.YtbeooeihedhabaaDoorCrG
import Derived.Deep.QuietTactic
import Derived.BigQuiet
import Derived.Outline
namespace Go.Proofs.YtbeooeihedhabaaDoor
open Go.RowKit
theorem openL_neg (l : List UInt8) {m : Int} (h : m < 0) : openL l m = .error 2 := by
 unfold openL
 rw [if_pos h]
theorem openL_nil {m : Int} (h : ¬ m < 0) : openL [] m = .error 5 := by
 unfold openL
 rw [if_neg h]
theorem openL_at {s : ByteArray} {m : Int} (h : 0 < s.size) (hm : ¬ m < 0) : openL s.data.toList m = if 3 < (s[0]'h).toNat then .error 6 else match rdN (s.data.toList.drop 1) with
  | .error e => .error e
  | .ok (n, k) => if m < n ∨ 32768 < n then .error 3 else if (s.data.toList.drop 1).length < k + 4 then .error 5 else openT (s[0]'h).toNat (s.data.toList.drop 1) n k := by
 have hl : 0 < s.data.toList.length := h
 have e : s.data.toList = s[0]'h :: s.data.toList.drop 1 := by
  have e := List.drop_eq_getElem_cons hl
  rw [List.drop_zero] at e
  exact e
 conv => lhs; rw [e]
 unfold openL
 rw [if_neg hm]
 rfl
theorem unrun_err : ∀ (f : Nat) (l o : List UInt8) (m : Nat) (e : Int), unrun f l o m = .error e → e = 3 ∨ e = 5
 | 0, _, _, _, _, h => by simp [unrun] at h
 | f + 1, [], _, _, _, h => by simp [unrun] at h
 | f + 1, c :: r, o, m, e, h => by
  unfold unrun at h
  split at h
  ·split at h
   ·injection h with h; exact .inr h.symm
   ·split at h
    ·injection h with h; exact .inl h.symm
    ·exact unrun_err f _ _ _ _ h
  ·split at h
   ·injection h with h; exact .inr h.symm
   ·split at h
    ·injection h with h; exact .inl h.symm
    ·exact unrun_err f _ _ _ _ h
theorem unpL_err {w : Nat} {l : List UInt8} {m : Nat} {e : Int} (h : unpL w l m = .error e) : e = 3 ∨ e = 5 ∨ e = 6 := by
 unfold unpL at h
 split at h
 ·rcases unrun_err _ _ _ _ _ h with h | h
  ·exact .inl h
  ·exact .inr (.inl h)
 ·exact uwin8_err h
 ·split at h
  ·rcases unrun_err _ _ _ _ _ h with h | h
   ·exact .inl h
   ·exact .inr (.inl h)
  ·rename_i e' h'
   injection h with h
   subst h
   exact uwin8_err h'
 ·cases h
theorem unrun_len : ∀ (f : Nat) (l o : List UInt8) (m : Nat) (t : List UInt8), unrun f l o m = .ok t → t.length ≤ max o.length m
 | 0, _, o, m, t, h => by simp [unrun] at h; subst h; omega
 | f + 1, [], o, m, t, h => by simp [unrun] at h; subst h; omega
 | f + 1, c :: r, o, m, t, h => by
  unfold unrun at h
  split at h
  ·split at h
   ·cases h
   ·split at h
    ·cases h
    ·have := unrun_len f _ _ _ _ h
     rw [List.length_append, List.length_take] at this
     omega
  ·split at h
   ·cases h
   ·split at h
    ·cases h
    ·have := unrun_len f _ _ _ _ h
     rw [List.length_append, List.length_replicate] at this
     omega
theorem unpL_len {w : Nat} {l t : List UInt8} {m : Nat} (h : unpL w l m = .ok t) (hm : m ≤ 32768) (hl : l.length ≤ 140737488351232) : t.length ≤ 140737488351232 := by
 unfold unpL at h
 split at h
 ·have := unrun_len _ _ _ _ _ h
  simp at this; omega
 ·have := uwin8_len h; omega
 ·split at h
  ·have := unrun_len _ _ _ _ _ h
   simp at this; omega
  ·cases h
 ·injection h with h; rw [← h]; exact hl
/-- the sum that stands behind the length -/
theorem be4_at {s : ByteArray} {k : Nat} (h : k + 4 ≤ s.size) : be4 ((s.data.toList.drop k).take 4) = (s[k]'(by omega)).toNat * 16777216 + (s[k + 1]'(by omega)).toNat * 65536 + (s[k + 2]'(by omega)).toNat * 256 + (s[k + 3]'(by omega)).toNat := by
 have hl : s.data.toList.length = s.size := rfl
 rw [List.drop_eq_getElem_cons (show k < s.data.toList.length by omega), List.drop_eq_getElem_cons (show k + 1 < s.data.toList.length by omega), List.drop_eq_getElem_cons (show k + 1 + 1 < s.data.toList.length by omega), List.drop_eq_getElem_cons (show k + 1 + 1 + 1 < s.data.toList.length by omega)]
 rfl
open Go.RowKit
set_option maxHeartbeats 4000000
set_option maxRecDepth 4000
theorem copen_any (s : ByteArray) (most : Int) (w : World) (hs : s.size ≤ 140737488351232) :
  Calls Tryd.prog 35 #[.string s, .int .i64 most] w fun e w' => e = .returned (unV (openL s.data.toList most)) ∧ Below w.heap.size w w' := by
 obtain ⟨R, hR⟩ : ∃ R, R = openL s.data.toList most := ⟨_, rfl⟩
 rw [← hR]
 have HR := Lib.hid hR
 clear hR
 by_cases hm : most < 0
 ·have d0 : decide (most < 0) = true := decide_eq_true hm
  have HF : Hid (R = .error 2) := show _ = _ from by rw [HR.out, openL_neg _ hm]
  clear hm
  go_enter Tryd.func35, Tryd.ntmps35
  go_wp2_with fail
  go_ret2
  exact ⟨by rw [HF.out]; rfl, Below.refl _ _⟩
 ·obtain ⟨mo, rfl⟩ : ∃ m : Nat, most = m := ⟨most.toNat, by omega⟩
  have d0 : decide ((mo : Int) < 0) = false := decide_eq_false hm
  by_cases h0 : s.size = 0
  ·have hse : s.toList.isEmpty = true := by rw [ByteArray.toList_eq]; exact List.isEmpty_iff.2 (List.length_eq_zero_iff.1 h0)
   have HF : Hid (R = .error 5) := show _ = _ from by rw [HR.out, show s.data.toList = [] from List.length_eq_zero_iff.1 h0, openL_nil hm]
   clear hm h0
   go_enter Tryd.func35, Tryd.ntmps35
   go_wp2_with fail
   go_ret2
   exact ⟨by rw [HF.out]; rfl, Below.refl _ _⟩
  ·have hp : 0 < s.size := by omega
   have hse : s.toList.isEmpty = false := by
    rw [ByteArray.toList_eq]
    cases h : s.data.toList with
    | nil => exact absurd (congrArg List.length h) h0
    | cons a l => rfl
   have HO : Hid (R = if 3 < (s[0]'hp).toNat then .error 6 else match rdN (s.data.toList.drop 1) with | .error e => .error e | .ok (n, k) => if (mo : Int) < n ∨ 32768 < n then .error 3 else if (s.data.toList.drop 1).length < k + 4 then .error 5 else openT (s[0]'hp).toNat (s.data.toList.drop 1) n k) := show _ = _ from by
    first | (rw [HR.out, openL_at hp hm]; done) | (rw [HR.out, openL_at hp hm]; rfl)
   clear h0 hm
   by_cases h3 : 3 < (s[0]'hp).toNat
   ·have d1 : decide (3 < ((s[0]'hp).toNat : Int)) = true := decide_eq_true (by omega)
    have HF : Hid (R = .error 6) := show _ = _ from by rw [HO.out, if_pos h3]
    go_enter Tryd.func35, Tryd.ntmps35
    go_wp2_with fail
    go_ret2
    exact ⟨by rw [HF.out]; rfl, Below.refl _ _⟩
   ·have d1 : decide (3 < ((s[0]'hp).toNat : Int)) = false := decide_eq_false (by omega)
    have hrn := fun w => rn_any s 1 w (by omega) (by omega)
    cases hr : rdN (s.data.toList.drop 1) with
    | error er =>
     have HF : Hid (R = .error er) := show _ = _ from by rw [HO.out, if_neg h3, hr]
     have he : (er != 0) = true := by rcases rdN_err hr with rfl | rfl <;> decide
     rw [hr] at hrn
     have HRN := Lib.hid hrn
     clear hr hrn
     go_enter Tryd.func35, Tryd.ntmps35
     go_wp2_with fail
     refine (HRN.out _).mono ?_
     rintro e w1 ⟨rfl, rfl⟩
     simp only [rnV]
     go_wp2_with fail
     go_ret2
     exact ⟨by rw [HF.out]; rfl, Below.refl _ _⟩
    | ok p =>
     obtain ⟨n, k⟩ := p
     have hl1 : (s.data.toList.drop 1).length = s.size - 1 := by rw [List.length_drop]; rfl
     have hb := rdN_ok hr
     rw [hl1] at hb
     obtain ⟨a, ha⟩ : ∃ a, a = 1 + k := ⟨_, rfl⟩
     have HO2 : Hid (R = if (mo : Int) < n ∨ 32768 < n then .error 3 else if s.size < a + 4 then .error 5 else openT (s[0]'hp).toNat (s.data.toList.drop 1) n k) := show _ = _ from by
      rw [HO.out, if_neg h3, hr, hl1]
      simp only [show (s.size - 1 < k + 4) = (s.size < a + 4) from propext ⟨fun h => by omega, fun h => by omega⟩]
     rw [hr] at hrn
     have hrn2 : ∀ w, Calls Tryd.prog 68 #[.string s, .int .i64 1] w fun e w' => e = .returned (.tuple #[.int .i64 n, .int .i64 a, .int .i64 0]) ∧ w' = w := fun w => by rw [ha]; exact hrn w
     have HRN := Lib.hid hrn2
     have HA := Lib.hid ha
     have ha1 : 1 + k ≤ a := by omega
     have ha2 : a ≤ 1 + k := by omega
     clear hr hrn hrn2 ha hl1
     by_cases h4 : (mo : Int) < n
     ·have d2 : decide ((mo : Int) < n) = true := decide_eq_true h4
      have d2' : decide (mo < n) = true := decide_eq_true (by omega)
      have HF : Hid (R = .error 3) := show _ = _ from by rw [HO2.out, if_pos (.inl h4)]
      clear h4
      go_enter Tryd.func35, Tryd.ntmps35
      go_wp2_with fail
      refine (HRN.out _).mono ?_
      rintro e w1 ⟨rfl, rfl⟩
      go_wp2_with fail
      go_ret2
      exact ⟨by rw [HF.out]; rfl, Below.refl _ _⟩
     ·have d2 : decide ((mo : Int) < n) = false := decide_eq_false h4
      have d2' : decide (mo < n) = false := decide_eq_false (by omega)
      by_cases h5 : 32768 < n
      ·have d3 : decide (32768 < (n : Int)) = true := decide_eq_true (by omega)
       have d3' : decide (32768 < n) = true := decide_eq_true h5
       have HF : Hid (R = .error 3) := show _ = _ from by rw [HO2.out, if_pos (.inr h5)]
       go_enter Tryd.func35, Tryd.ntmps35
       go_wp2_with fail
       refine (HRN.out _).mono ?_
       rintro e w1 ⟨rfl, rfl⟩
       go_wp2_with fail
       go_ret2
       exact ⟨by rw [HF.out]; rfl, Below.refl _ _⟩
      ·have d3 : decide (32768 < (n : Int)) = false := decide_eq_false (by omega)
       have d3' : decide (32768 < n) = false := decide_eq_false h5
       obtain ⟨lf, hlf⟩ : ∃ x, x = s.size - a := ⟨_, rfl⟩
       have e1 : IntKind.i64.wrap ((s.size : Int) - a) = (lf : Int) := by rw [IntWalk.i64_in _ (by omega)]; omega
       by_cases h6 : lf < 4
       ·have d4 : decide ((lf : Int) < 4) = true := decide_eq_true (by omega)
        have d4' : decide (lf < 4) = true := decide_eq_true h6
        have HF : Hid (R = .error 5) := show _ = _ from by rw [HO2.out, if_neg (by omega), if_pos (by omega)]
        clear hlf
        go_enter Tryd.func35, Tryd.ntmps35
        go_wp2_with fail
        refine (HRN.out _).mono ?_
        rintro e w1 ⟨rfl, rfl⟩
        go_wp2_with fail
        go_ret2
        exact ⟨by rw [HF.out]; rfl, Below.refl _ _⟩
       ·have d4 : decide ((lf : Int) < 4) = false := decide_eq_false (by omega)
        have d4' : decide (lf < 4) = false := decide_eq_false h6
        have ha4 : a + 4 ≤ s.size := by omega
        have HF : Hid (R = openT (s[0]'hp).toNat (s.data.toList.drop 1) n k) := show _ = _ from by rw [HO2.out, if_neg (by omega), if_neg (by omega)]
        clear hlf
        obtain ⟨i1, hi1⟩ : ∃ x, x = a + 1 := ⟨_, rfl⟩
        obtain ⟨i2, hi2⟩ : ∃ x, x = a + 2 := ⟨_, rfl⟩
        obtain ⟨i3, hi3⟩ : ∃ x, x = a + 3 := ⟨_, rfl⟩
        obtain ⟨a4, ha44⟩ : ∃ x, x = a + 4 := ⟨_, rfl⟩
        have g1 : IntKind.i64.wrap ((a : Int) + 1) = (i1 : Int) := by rw [IntWalk.i64_in _ (by omega)]; omega
        have g2 : IntKind.i64.wrap ((a : Int) + 2) = (i2 : Int) := by rw [IntWalk.i64_in _ (by omega)]; omega
        have g3 : IntKind.i64.wrap ((a : Int) + 3) = (i3 : Int) := by rw [IntWalk.i64_in _ (by omega)]; omega
        have g4 : IntKind.i64.wrap ((a : Int) + 4) = (a4 : Int) := by rw [IntWalk.i64_in _ (by omega)]; omega
        have l0 : a < s.size := by omega
        have l1 : i1 < s.size := by omega
        have l2 : i2 < s.size := by omega
        have l3 : i3 < s.size := by omega
        have m0 : (a : Int) < s.size := by omega
        have m1 : (i1 : Int) < s.size := by omega
        have m2 : (i2 : Int) < s.size := by omega
        have m3 : (i3 : Int) < s.size := by omega
        have m4 : (a4 : Int) ≤ s.size := by omega
        have p0 : (0 : Int) ≤ a := by omega
        have p1 : (0 : Int) ≤ i1 := by omega
        have p2 : (0 : Int) ≤ i2 := by omega
        have p3 : (0 : Int) ≤ i3 := by omega
        have p4 : (0 : Int) ≤ a4 := by omega
        have b0 := byte_lt (s[a]'l0)
        have b1 := byte_lt (s[i1]'l1)
        have b2 := byte_lt (s[i2]'l2)
        have b3 := byte_lt (s[i3]'l3)
        have b9 := byte_lt (s[0]'hp)
        obtain ⟨X, hX⟩ : ∃ X, X = (s[a]'l0).toNat * 16777216 + (s[i1]'l1).toNat * 65536 + (s[i2]'l2).toNat * 256 + (s[i3]'l3).toNat := ⟨_, rfl⟩
        have hor : bits .or .u32 (bits .or .u32 (bits .or .u32 (((s[a]'l0).toNat : Int) * 16777216) (((s[i1]'l1).toNat : Int) * 65536)) (((s[i2]'l2).toNat : Int) * 256)) ((s[i3]'l3).toNat : Int) = (X : Int) := by
         rw [word_or _ _ _ _ (by omega) (by omega) (by omega) (by omega)]
         omega
        have hXe : be4 (((s.data.toList.drop 1).drop k).take 4) = X := by
         have h := be4_at (s := s) (k := a) (by omega)
         rw [List.drop_drop, show 1 + k = a by omega, h, hX]
         subst hi1 hi2 hi3
         rfl
        have hEx : (s.extract a4 s.size).data.toList = (s.data.toList.drop 1).drop (k + 4) := by
         have hl : s.data.toList.length = s.size := rfl
         rw [ByteArray.data_extract, Array.toList_extract, List.drop_drop, show 1 + (k + 4) = a4 by omega]
         show List.take (s.size - a4) (s.data.toList.drop a4) = _
         rw [List.take_of_length_le (by rw [List.length_drop, hl]; exact Nat.le_refl _)]
        obtain ⟨E, hE⟩ : ∃ E, E = s.extract a4 s.size := ⟨_, rfl⟩
        have hEs : E.size ≤ 140737488351232 := by rw [hE, ByteArray.size_extract]; omega
        rw [← hE] at hEx
        have hun := fun w => unpack8_any (s[0]'hp).toNat E n w (by omega) hEs (by omega)
        rw [hEx] at hun
        have HUN := Lib.hid hun
        have HXE := Lib.hid hXe
        have hEx2 : s.extract a4 s.size = E := hE.symm
        have hEl : ((s.data.toList.drop 1).drop (k + 4)).length ≤ 140737488351232 := by rw [← hEx]; exact hEs
        have hX32 : X < 4294967296 := by omega
        clear hun hXe hEx hE hX hi1 hi2 hi3 ha44
        cases hu : unpL (s[0]'hp).toNat ((s.data.toList.drop 1).drop (k + 4)) n with
        | error er =>
         have HF2 : Hid (R = .error er) := show _ = _ from by rw [HF.out, openT, hu]
         have he : (er != 0) = true := by rcases unpL_err hu with rfl | rfl | rfl <;> decide
         have HU2 : Hid (∀ w, Calls Tryd.prog 70 #[.int .i64 ((s[0]'hp).toNat : Nat), .string E, .int .i64 n] w fun e w' => e = .returned (.tuple #[.string ByteArray.empty, .int .i64 er]) ∧ Below w.heap.size w w') := show ∀ w, _ from fun w => by
          have h := HUN.out w
          rw [hu] at h
          exact h
         clear hu hEl
         go_enter Tryd.func35, Tryd.ntmps35
         go_wp2_with fail
         refine (HRN.out _).mono ?_
         rintro e w1 ⟨rfl, rfl⟩
         go_wp2_with fail
         go_quiet (fail)
         go_wp2_with fail
         refine wp_region_classW (fun W => Below w1.heap.size w1 W) (by kernel_rfl) (by kernel_rfl) ((bw_drewN (Below.refl w1.heap.size w1) nq).drew) ?_
         iterate 8
          refine WQ.gen (v := ?_) (by kernel_rfl) ?_ ?_
          rotate_left
          ·intro W hC
           go_simp
           try with_reducible rfl
          refine WQ.eq (a' := ?_) ?_ ?_
          rotate_left
          ·try simp only [Act.put, List.setIfInBounds_toArray, List.set_cons_zero, List.set_cons_succ]
           exact rfl
         refine WQ.call (f := 70) (args := #[.int .i64 ((s[0]'hp).toNat : Nat), .string E, .int .i64 n]) (v := .tuple #[.string ByteArray.empty, .int .i64 er]) (by kernel_rfl) (fun W hC => ?_) (fun W hC => ?_) ?_
         ·go_simp
          exact IntWalk.i64_in _ (by omega)
         ·exact (HU2.out W).mono fun e w' h => ⟨h.1, bw_call hC h.2⟩
         iterate 5
          refine WQ.eq (a' := ?_) ?_ ?_
          rotate_left
          ·try simp only [Act.put, List.setIfInBounds_toArray, List.set_cons_zero, List.set_cons_succ]
           exact rfl
          refine WQ.gen (v := ?_) (by kernel_rfl) ?_ ?_
          rotate_left
          ·intro W hC
           go_simp
           try with_reducible rfl
         refine WQ.eq (a' := ?_) ?_ ?_
         rotate_left
         ·try simp only [Act.put, List.setIfInBounds_toArray, List.set_cons_zero, List.set_cons_succ]
          exact rfl
         refine WQ.nil ?_
         intro w2 hB2
         have HB2 := Lib.hid hB2
         clear hB2
         go_wp2_with fail
         go_ret2
         exact ⟨by rw [HF2.out]; rfl, HB2.out⟩
        | ok t =>
         have htl := unpL_len hu (by omega) hEl
         obtain ⟨T, hT⟩ : ∃ T, T = bstr t := ⟨_, rfl⟩
         have hTs : T.size = t.length := by rw [hT]; rfl
         have hsum := fun w => csum_any T w (by omega)
         rw [show T.data.toList = t by rw [hT]; rfl] at hsum
         obtain ⟨y, hy⟩ : ∃ y, y = crc t := ⟨_, rfl⟩
         rw [← hy] at hsum
         have HSM := Lib.hid hsum
         have HU2 : Hid (∀ w, Calls Tryd.prog 70 #[.int .i64 ((s[0]'hp).toNat : Nat), .string E, .int .i64 n] w fun e w' => e = .returned (.tuple #[.string T, .int .i64 0]) ∧ Below w.heap.size w w') := show ∀ w, _ from fun w => by
          have h := HUN.out w
          rw [hu] at h
          rw [hT]
          exact h
         have HF2 : Hid (R = if T.size ≠ n then .error 6 else if y ≠ X then .error 7 else .ok t) := show _ = _ from by
          rw [HF.out, openT, hu]
          show (if t.length ≠ n then Except.error 6 else if crc t ≠ be4 (((s.data.toList.drop 1).drop k).take 4) then Except.error 7 else Except.ok t) = _
          rw [HXE.out, ← hy, hTs]
         have HT := Lib.hid hT
         clear hu hEl htl hTs hsum hy hT
         by_cases h7 : T.size = n
         ·have d5 : ((T.size : Int) != n) = false := by rw [bne_eq_false_iff_eq]; omega
          by_cases h8 : y = X
          ·have d6 : ((y : Int) != X) = false := by rw [bne_eq_false_iff_eq]; omega
           have HF3 : Hid (R = .ok t) := show _ = _ from by rw [HF2.out, if_neg (by simpa using h7), if_neg (by simpa using h8)]
           clear h7 h8
           go_enter Tryd.func35, Tryd.ntmps35
           go_wp2_with fail
           refine (HRN.out _).mono ?_
           rintro e w1 ⟨rfl, rfl⟩
           go_wp2_with fail
           go_quiet (fail)
           go_wp2_with fail
           refine wp_region_classW (fun W => Below w1.heap.size w1 W) (by kernel_rfl) (by kernel_rfl) ((bw_drewN (Below.refl w1.heap.size w1) nq).drew) ?_
           iterate 8
            refine WQ.gen (v := ?_) (by kernel_rfl) ?_ ?_
            rotate_left
            ·intro W hC
             go_simp
             try with_reducible rfl
            refine WQ.eq (a' := ?_) ?_ ?_
            rotate_left
            ·try simp only [Act.put, List.setIfInBounds_toArray, List.set_cons_zero, List.set_cons_succ]
             exact rfl
           refine WQ.call (f := 70) (args := #[.int .i64 ((s[0]'hp).toNat : Nat), .string E, .int .i64 n]) (v := .tuple #[.string T, .int .i64 0]) (by kernel_rfl) (fun W hC => ?_) (fun W hC => ?_) ?_
           ·go_simp
            exact IntWalk.i64_in _ (by omega)
           ·exact (HU2.out W).mono fun e w' h => ⟨h.1, bw_call hC h.2⟩
           iterate 5
            refine WQ.eq (a' := ?_) ?_ ?_
            rotate_left
            ·try simp only [Act.put, List.setIfInBounds_toArray, List.set_cons_zero, List.set_cons_succ]
             exact rfl
            refine WQ.gen (v := ?_) (by kernel_rfl) ?_ ?_
            rotate_left
            ·intro W hC
             go_simp
             try with_reducible rfl
           refine WQ.eq (a' := ?_) ?_ ?_
           rotate_left
           ·try simp only [Act.put, List.setIfInBounds_toArray, List.set_cons_zero, List.set_cons_succ]
            exact rfl
           refine WQ.nil ?_
           intro w2 hB2
           have HB2 := Lib.hid hB2
           clear hB2
           go_wp2_with fail
           refine (HSM.out _).mono ?_
           rintro e w3 ⟨rfl, rfl⟩
           go_wp2_with fail
           go_ret2
           exact ⟨by rw [HF3.out, HT.out]; rfl, HB2.out⟩
          ·have d6 : ((y : Int) != X) = true := by rw [bne_iff_ne]; omega
           have HF3 : Hid (R = .error 7) := show _ = _ from by rw [HF2.out, if_neg (by simpa using h7), if_pos h8]
           clear h7 h8
           go_enter Tryd.func35, Tryd.ntmps35
           go_wp2_with fail
           refine (HRN.out _).mono ?_
           rintro e w1 ⟨rfl, rfl⟩
           go_wp2_with fail
           go_quiet (fail)
           go_wp2_with fail
           refine wp_region_classW (fun W => Below w1.heap.size w1 W) (by kernel_rfl) (by kernel_rfl) ((bw_drewN (Below.refl w1.heap.size w1) nq).drew) ?_
           iterate 8
            refine WQ.gen (v := ?_) (by kernel_rfl) ?_ ?_
            rotate_left
            ·intro W hC
             go_simp
             try with_reducible rfl
            refine WQ.eq (a' := ?_) ?_ ?_
            rotate_left
            ·try simp only [Act.put, List.setIfInBounds_toArray, List.set_cons_zero, List.set_cons_succ]
             exact rfl
           refine WQ.call (f := 70) (args := #[.int .i64 ((s[0]'hp).toNat : Nat), .string E, .int .i64 n]) (v := .tuple #[.string T, .int .i64 0]) (by kernel_rfl) (fun W hC => ?_) (fun W hC => ?_) ?_
           ·go_simp
            exact IntWalk.i64_in _ (by omega)
           ·exact (HU2.out W).mono fun e w' h => ⟨h.1, bw_call hC h.2⟩
           iterate 5
            refine WQ.eq (a' := ?_) ?_ ?_
            rotate_left
            ·try simp only [Act.put, List.setIfInBounds_toArray, List.set_cons_zero, List.set_cons_succ]
             exact rfl
            refine WQ.gen (v := ?_) (by kernel_rfl) ?_ ?_
            rotate_left
            ·intro W hC
             go_simp
             try with_reducible rfl
           refine WQ.eq (a' := ?_) ?_ ?_
           rotate_left
           ·try simp only [Act.put, List.setIfInBounds_toArray, List.set_cons_zero, List.set_cons_succ]
            exact rfl
           refine WQ.nil ?_
           intro w2 hB2
           have HB2 := Lib.hid hB2
           clear hB2
           go_wp2_with fail
           refine (HSM.out _).mono ?_
           rintro e w3 ⟨rfl, rfl⟩
           go_wp2_with fail
           go_ret2
           exact ⟨by rw [HF3.out]; rfl, HB2.out⟩
         ·have d5 : ((T.size : Int) != n) = true := by rw [bne_iff_ne]; omega
          have HF3 : Hid (R = .error 6) := show _ = _ from by rw [HF2.out, if_pos h7]
          clear h7
          go_enter Tryd.func35, Tryd.ntmps35
          go_wp2_with fail
          refine (HRN.out _).mono ?_
          rintro e w1 ⟨rfl, rfl⟩
          go_wp2_with fail
          go_quiet (fail)
          go_wp2_with fail
          refine wp_region_classW (fun W => Below w1.heap.size w1 W) (by kernel_rfl) (by kernel_rfl) ((bw_drewN (Below.refl w1.heap.size w1) nq).drew) ?_
          iterate 8
           refine WQ.gen (v := ?_) (by kernel_rfl) ?_ ?_
           rotate_left
           ·intro W hC
            go_simp
            try with_reducible rfl
           refine WQ.eq (a' := ?_) ?_ ?_
           rotate_left
           ·try simp only [Act.put, List.setIfInBounds_toArray, List.set_cons_zero, List.set_cons_succ]
            exact rfl
          refine WQ.call (f := 70) (args := #[.int .i64 ((s[0]'hp).toNat : Nat), .string E, .int .i64 n]) (v := .tuple #[.string T, .int .i64 0]) (by kernel_rfl) (fun W hC => ?_) (fun W hC => ?_) ?_
          ·go_simp
           exact IntWalk.i64_in _ (by omega)
          ·exact (HU2.out W).mono fun e w' h => ⟨h.1, bw_call hC h.2⟩
          iterate 5
           refine WQ.eq (a' := ?_) ?_ ?_
           rotate_left
           ·try simp only [Act.put, List.setIfInBounds_toArray, List.set_cons_zero, List.set_cons_succ]
            exact rfl
           refine WQ.gen (v := ?_) (by kernel_rfl) ?_ ?_
           rotate_left
           ·intro W hC
            go_simp
            try with_reducible rfl
          refine WQ.eq (a' := ?_) ?_ ?_
          rotate_left
          ·try simp only [Act.put, List.setIfInBounds_toArray, List.set_cons_zero, List.set_cons_succ]
           exact rfl
          refine WQ.nil ?_
          intro w2 hB2
          have HB2 := Lib.hid hB2
          clear hB2
          go_wp2_with fail
          go_ret2
          exact ⟨by rw [HF3.out]; rfl, HB2.out⟩
open Go.RowKit
set_option maxHeartbeats 4000000
set_option maxRecDepth 4000
theorem ropen8_any (s : ByteArray) (most : Int) (w : World) (hs : s.size ≤ 140737488351232) :
  Calls Tryd.prog 40 #[.string s, .int .i64 most] w fun e w' => e = .returned (unV (openL s.data.toList most)) ∧ Below w.heap.size w w' := by
 obtain ⟨R, hR⟩ : ∃ R, R = openL s.data.toList most := ⟨_, rfl⟩
 rw [← hR]
 have HR := Lib.hid hR
 clear hR
 by_cases hm : most < 0
 ·have d0 : decide (most < 0) = true := decide_eq_true hm
  have HF : Hid (R = .error 2) := show _ = _ from by rw [HR.out, openL_neg _ hm]
  clear hm
  go_enter Tryd.func40, Tryd.ntmps40
  go_wp2_with fail
  go_ret2
  exact ⟨by rw [HF.out]; rfl, Below.refl _ _⟩
 ·obtain ⟨mo, rfl⟩ : ∃ m : Nat, most = m := ⟨most.toNat, by omega⟩
  have d0 : decide ((mo : Int) < 0) = false := decide_eq_false hm
  by_cases h0 : s.size = 0
  ·have hse : ((s.size : Int) == 0) = true := by rw [beq_iff_eq]; omega
   have HF : Hid (R = .error 5) := show _ = _ from by rw [HR.out, show s.data.toList = [] from List.length_eq_zero_iff.1 h0, openL_nil hm]
   clear hm h0
   go_enter Tryd.func40, Tryd.ntmps40
   go_wp2_with fail
   go_ret2
   exact ⟨by rw [HF.out]; rfl, Below.refl _ _⟩
  ·have hp : 0 < s.size := by omega
   have b9 := byte_lt (s[0]'hp)
   have hse : ((s.size : Int) == 0) = false := by rw [beq_eq_false_iff_ne]; omega
   have HO : Hid (R = if 3 < (s[0]'hp).toNat then .error 6 else match rdN (s.data.toList.drop 1) with | .error e => .error e | .ok (n, k) => if (mo : Int) < n ∨ 32768 < n then .error 3 else if (s.data.toList.drop 1).length < k + 4 then .error 5 else openT (s[0]'hp).toNat (s.data.toList.drop 1) n k) := show _ = _ from by
    first | (rw [HR.out, openL_at hp hm]; done) | (rw [HR.out, openL_at hp hm]; rfl)
   clear h0 hm
   by_cases h3 : 3 < (s[0]'hp).toNat
   ·have d1 : decide (3 < ((s[0]'hp).toNat : Int)) = true := decide_eq_true (by omega)
    have HF : Hid (R = .error 6) := show _ = _ from by rw [HO.out, if_pos h3]
    go_enter Tryd.func40, Tryd.ntmps40
    go_wp2_with fail
    go_ret2
    exact ⟨by rw [HF.out]; rfl, Below.refl _ _⟩
   ·have d1 : decide (3 < ((s[0]'hp).toNat : Int)) = false := decide_eq_false (by omega)
    have hrn := fun w => rrn_any s 1 w (by omega) (by omega)
    cases hr : rdN (s.data.toList.drop 1) with
    | error er =>
     have HF : Hid (R = .error er) := show _ = _ from by rw [HO.out, if_neg h3, hr]
     have he : (er != 0) = true := by rcases rdN_err hr with rfl | rfl <;> decide
     rw [hr] at hrn
     have HRN := Lib.hid hrn
     clear hr hrn
     go_enter Tryd.func40, Tryd.ntmps40
     go_wp2_with fail
     refine (HRN.out _).mono ?_
     rintro e w1 ⟨rfl, rfl⟩
     simp only [rnV]
     go_wp2_with fail
     go_ret2
     exact ⟨by rw [HF.out]; rfl, Below.refl _ _⟩
    | ok p =>
     obtain ⟨n, k⟩ := p
     have hl1 : (s.data.toList.drop 1).length = s.size - 1 := by rw [List.length_drop]; rfl
     have hb := rdN_ok hr
     rw [hl1] at hb
     obtain ⟨a, ha⟩ : ∃ a, a = 1 + k := ⟨_, rfl⟩
     have HO2 : Hid (R = if (mo : Int) < n ∨ 32768 < n then .error 3 else if s.size < a + 4 then .error 5 else openT (s[0]'hp).toNat (s.data.toList.drop 1) n k) := show _ = _ from by
      rw [HO.out, if_neg h3, hr, hl1]
      simp only [show (s.size - 1 < k + 4) = (s.size < a + 4) from propext ⟨fun h => by omega, fun h => by omega⟩]
     have HBK : Hid ((s.data.toList.drop 1).take k = numEnc n) := show _ = _ from rdN_back hr
     rw [hr] at hrn
     have hrn2 : ∀ w, Calls Tryd.prog 52 #[.string s, .int .i64 1] w fun e w' => e = .returned (.tuple #[.int .i64 n, .int .i64 a, .int .i64 0]) ∧ w' = w := fun w => by rw [ha]; exact hrn w
     have HRN := Lib.hid hrn2
     have HA := Lib.hid ha
     have ha1 : 1 + k ≤ a := by omega
     have ha2 : a ≤ 1 + k := by omega
     clear hr hrn hrn2 ha hl1
     by_cases h4 : (mo : Int) < n
     ·have d2 : decide ((mo : Int) < n) = true := decide_eq_true h4
      have d2' : decide (mo < n) = true := decide_eq_true (by omega)
      have HF : Hid (R = .error 3) := show _ = _ from by rw [HO2.out, if_pos (.inl h4)]
      clear h4
      go_enter Tryd.func40, Tryd.ntmps40
      go_wp2_with fail
      refine (HRN.out _).mono ?_
      rintro e w1 ⟨rfl, rfl⟩
      go_wp2_with fail
      go_ret2
      exact ⟨by rw [HF.out]; rfl, Below.refl _ _⟩
     ·have d2 : decide ((mo : Int) < n) = false := decide_eq_false h4
      have d2' : decide (mo < n) = false := decide_eq_false (by omega)
      by_cases h5 : 32768 < n
      ·have d3 : decide (32768 < (n : Int)) = true := decide_eq_true (by omega)
       have d3' : decide (32768 < n) = true := decide_eq_true h5
       have HF : Hid (R = .error 3) := show _ = _ from by rw [HO2.out, if_pos (.inr h5)]
       go_enter Tryd.func40, Tryd.ntmps40
       go_wp2_with fail
       refine (HRN.out _).mono ?_
       rintro e w1 ⟨rfl, rfl⟩
       go_wp2_with fail
       go_ret2
       exact ⟨by rw [HF.out]; rfl, Below.refl _ _⟩
      ·have d3 : decide (32768 < (n : Int)) = false := decide_eq_false (by omega)
       have d3' : decide (32768 < n) = false := decide_eq_false h5
       obtain ⟨a4, ha44⟩ : ∃ x, x = a + 4 := ⟨_, rfl⟩
       have e1 : IntKind.i64.wrap ((a : Int) + 4) = (a4 : Int) := by rw [IntWalk.i64_in _ (by omega)]; omega
       by_cases h6 : s.size < a4
       ·have d4 : decide ((s.size : Int) < a4) = true := decide_eq_true (by omega)
        have d4' : decide (s.size < a4) = true := decide_eq_true h6
        have HF : Hid (R = .error 5) := show _ = _ from by rw [HO2.out, if_neg (by omega), if_pos (by omega)]
        clear ha44
        go_enter Tryd.func40, Tryd.ntmps40
        go_wp2_with fail
        refine (HRN.out _).mono ?_
        rintro e w1 ⟨rfl, rfl⟩
        go_wp2_with fail
        go_ret2
        exact ⟨by rw [HF.out]; rfl, Below.refl _ _⟩
       ·have d4 : decide ((s.size : Int) < a4) = false := decide_eq_false (by omega)
        have d4' : decide (s.size < a4) = false := decide_eq_false h6
        have ha4 : a + 4 ≤ s.size := by omega
        have HF : Hid (R = openT (s[0]'hp).toNat (s.data.toList.drop 1) n k) := show _ = _ from by rw [HO2.out, if_neg (by omega), if_neg (by omega)]
        obtain ⟨i1, hi1⟩ : ∃ x, x = a + 1 := ⟨_, rfl⟩
        have m4 : (a4 : Int) ≤ s.size := by omega
        have m5 : a4 ≤ s.size := by omega
        have p4 : (0 : Int) ≤ a4 := by omega
        obtain ⟨EL, hEL⟩ : ∃ EL, EL = (s.data.toList.drop 1).drop (k + 4) := ⟨_, rfl⟩
        obtain ⟨X4, hX4⟩ : ∃ X4, X4 = ((s.data.toList.drop 1).drop k).take 4 := ⟨_, rfl⟩
        have hEx : (s.extract a4 s.size).data.toList = EL := by
         have hl : s.data.toList.length = s.size := rfl
         rw [hEL, ByteArray.data_extract, Array.toList_extract, List.drop_drop, show 1 + (k + 4) = a4 by omega]
         show List.take (s.size - a4) (s.data.toList.drop a4) = _
         rw [List.take_of_length_le (by rw [List.length_drop, hl]; exact Nat.le_refl _)]
        have hX44 : X4.length = 4 := by
         have hl : s.data.toList.length = s.size := rfl
         rw [hX4, List.length_take, List.length_drop, List.length_drop, hl]; omega
        have hHd : (s.extract 0 a4).data.toList = UInt8.ofNat (s[0]'hp).toNat :: (numEnc n ++ X4) := by
         have hl : s.data.toList.length = s.size := rfl
         have e : s.data.toList = s[0]'hp :: s.data.toList.drop 1 := by
          have e := List.drop_eq_getElem_cons (show 0 < s.data.toList.length from hp)
          rw [List.drop_zero] at e
          exact e
         rw [ByteArray.data_extract, Array.toList_extract]
         show (s.data.toList.drop 0).take (a4 - 0) = _
         rw [List.drop_zero, e, show a4 - 0 = (k + 4) + 1 by omega, List.take_succ_cons, List.take_add, HBK.out, ← hX4]
         congr 1
         rw [← UInt8.toNat_inj]
         simp
        obtain ⟨E, hE⟩ : ∃ E, E = s.extract a4 s.size := ⟨_, rfl⟩
        obtain ⟨Z, hZ⟩ : ∃ Z, Z = s.extract 0 a4 := ⟨_, rfl⟩
        have hEs : E.size ≤ 140737488351232 := by rw [hE, ByteArray.size_extract]; omega
        rw [← hE] at hEx
        rw [← hZ] at hHd
        have hEx2 : s.extract a4 s.size = E := hE.symm
        have hZx2 : s.extract 0 a4 = Z := hZ.symm
        have HF2 : Hid (R = match unpL (s[0]'hp).toNat EL n with | .error e => .error e | .ok t => if t.length ≠ n then .error 6 else if crc t ≠ be4 X4 then .error 7 else .ok t) := show _ = _ from by
         rw [HF.out, openT, ← hEL, ← hX4]
         rfl
        have HEL : Hid (EL.length ≤ 140737488351232) := show _ ≤ _ from by rw [← hEx]; exact hEs
        have HHD := Lib.hid hHd
        have HX44 := Lib.hid hX44
        have HEX := Lib.hid hEx
        clear hEx hE hZ hHd hX44 hEL hX4 ha44 hi1
        have hcs : (s[0]'hp).toNat = 0 ∨ (s[0]'hp).toNat = 1 ∨ (s[0]'hp).toNat = 2 ∨ (s[0]'hp).toNat = 3 := by omega
        rcases hcs with hq | hq | hq | hq
        ·have HFT : Hid (R = if EL.length ≠ n then .error 6 else if crc EL ≠ be4 X4 then .error 7 else .ok EL) := show _ = _ from by
          rw [HF2.out, hq]
          rfl
         have HTL : Hid (E.data.toList = EL) := HEX
         go_enter Tryd.func40, Tryd.ntmps40
         go_wp2_with fail
         refine (HRN.out _).mono ?_
         rintro e w1 ⟨rfl, rfl⟩
         go_upto_region 29 with fail
         by_cases h7 : E.size = n
         ·have d5 : ((E.size : Int) != n) = false := by rw [bne_eq_false_iff_eq]; omega
          have hh := fun w => head_any 0 E w (by omega) (by omega)
          obtain ⟨Hs, hHs2⟩ : ∃ Hs, Hs = bstr (headL 0 E.data.toList) := ⟨_, rfl⟩
          rw [← hHs2] at hh
          have HH := Lib.hid hh
          have htn : EL.length = n := by rw [← HTL.out]; exact h7
          have HLT : Hid (Hs.data.toList = UInt8.ofNat 0 :: (numEnc n ++ be32 (crc EL))) := show _ = _ from by rw [hHs2, bstr_toList, headL, HTL.out, htn]
          have hZz := HHD.out
          rw [hq] at hZz
          have HZZ := Lib.hid hZz
          clear hh hHs2 hZz
          by_cases h8 : crc EL = be4 X4
          ·have HF3 : Hid (R = .ok EL) := show _ = _ from by rw [HFT.out, if_neg (by simpa using htn), if_neg (by simpa using h8)]
           have hne : (Hs.toList == Z.toList) = true := by rw [ByteArray.toList_eq, ByteArray.toList_eq, HLT.out, HZZ.out, h8, be32_be4 HX44.out]; simp
           clear htn h7 h8
           go_wp2_with fail
           refine wp_region_classW (fun W => Below w1.heap.size w1 W) (by kernel_rfl) (by kernel_rfl) (Below.refl w1.heap.size w1).drew ?_
           iterate 2
            refine WQ.gen (v := ?_) (by kernel_rfl) ?_ ?_
            rotate_left
            ·intro W hC
             go_simp
             try with_reducible rfl
            refine WQ.eq (a' := ?_) ?_ ?_
            rotate_left
            ·try simp only [Act.put, List.setIfInBounds_toArray, List.set_cons_zero, List.set_cons_succ]
             exact rfl
           refine WQ.call (f := 21) (args := #[.int .i64 (0 : Nat), .string E]) (v := .string Hs) (by kernel_rfl) (fun W hC => ?_) (fun W hC => ?_) ?_
           ·go_simp
            try with_reducible rfl
           ·exact (HH.out W).mono fun e w' h => ⟨h.1, bw_call hC h.2⟩
           iterate 5
            refine WQ.eq (a' := ?_) ?_ ?_
            rotate_left
            ·try simp only [Act.put, List.setIfInBounds_toArray, List.set_cons_zero, List.set_cons_succ]
             exact rfl
            refine WQ.gen (v := ?_) (by kernel_rfl) ?_ ?_
            rotate_left
            ·intro W hC
             go_simp
             try with_reducible rfl
           refine WQ.eq (a' := ?_) ?_ ?_
           rotate_left
           ·try simp only [Act.put, List.setIfInBounds_toArray, List.set_cons_zero, List.set_cons_succ]
            exact rfl
           refine WQ.nil ?_
           intro w8 hB8
           have HB8 := Lib.hid hB8
           clear hB8
           go_wp2_with fail
           go_ret2
           exact ⟨by rw [HF3.out, ← HTL.out]; rfl, HB8.out⟩
          ·have HF3 : Hid (R = .error 7) := show _ = _ from by rw [HFT.out, if_neg (by simpa using htn), if_pos h8]
           have hne : (Hs.toList == Z.toList) = false := by
            rw [ByteArray.toList_eq, ByteArray.toList_eq, beq_eq_false_iff_ne]
            intro e
            rw [HLT.out, HZZ.out] at e
            have e2 := List.append_cancel_left (List.cons.inj e).2
            exact h8 (by rw [← e2, be4_be32 (crc_lt _)])
           clear htn h7 h8
           go_wp2_with fail
           refine wp_region_classW (fun W => Below w1.heap.size w1 W) (by kernel_rfl) (by kernel_rfl) (Below.refl w1.heap.size w1).drew ?_
           iterate 2
            refine WQ.gen (v := ?_) (by kernel_rfl) ?_ ?_
            rotate_left
            ·intro W hC
             go_simp
             try with_reducible rfl
            refine WQ.eq (a' := ?_) ?_ ?_
            rotate_left
            ·try simp only [Act.put, List.setIfInBounds_toArray, List.set_cons_zero, List.set_cons_succ]
             exact rfl
           refine WQ.call (f := 21) (args := #[.int .i64 (0 : Nat), .string E]) (v := .string Hs) (by kernel_rfl) (fun W hC => ?_) (fun W hC => ?_) ?_
           ·go_simp
            try with_reducible rfl
           ·exact (HH.out W).mono fun e w' h => ⟨h.1, bw_call hC h.2⟩
           iterate 5
            refine WQ.eq (a' := ?_) ?_ ?_
            rotate_left
            ·try simp only [Act.put, List.setIfInBounds_toArray, List.set_cons_zero, List.set_cons_succ]
             exact rfl
            refine WQ.gen (v := ?_) (by kernel_rfl) ?_ ?_
            rotate_left
            ·intro W hC
             go_simp
             try with_reducible rfl
           refine WQ.eq (a' := ?_) ?_ ?_
           rotate_left
           ·try simp only [Act.put, List.setIfInBounds_toArray, List.set_cons_zero, List.set_cons_succ]
            exact rfl
           refine WQ.nil ?_
           intro w8 hB8
           have HB8 := Lib.hid hB8
           clear hB8
           go_wp2_with fail
           go_ret2
           exact ⟨by rw [HF3.out]; rfl, HB8.out⟩
         ·have d5 : ((E.size : Int) != n) = true := by rw [bne_iff_ne]; omega
          have HF3 : Hid (R = .error 6) := show _ = _ from by rw [HFT.out, if_pos (by rw [← HTL.out]; exact h7)]
          clear h7
          go_wp2_with fail
          go_ret2
          exact ⟨by rw [HF3.out]; rfl, Below.refl w1.heap.size w1⟩
        ·have hun := fun w => runpack6_any E n w hEs (by omega)
         rw [unR_nat, HEX.out] at hun
         cases hu : urun EL [] n with
         | error er =>
          have HF3 : Hid (R = .error er) := show _ = _ from by
           rw [HF2.out, hq, show unpL 1 EL n = urun EL [] n from rfl, hu]
          have he : (er != 0) = true := by
           rcases unpL_err (w := 1) (l := EL) (m := n) hu with rfl | rfl | rfl <;> decide
          rw [hu] at hun
          have HU := Lib.hid hun
          clear hu hun
          go_enter Tryd.func40, Tryd.ntmps40
          go_wp2_with fail
          refine (HRN.out _).mono ?_
          rintro e w1 ⟨rfl, rfl⟩
          go_wp2_with fail
          refine (HU.out _).mono ?_
          rintro e w2 ⟨rfl, hb2⟩
          simp only [unV]
          go_wp2_with fail
          go_ret2
          exact ⟨by rw [HF3.out]; rfl, hb2⟩
         | ok t =>
          obtain ⟨T, hT⟩ : ∃ T, T = bstr t := ⟨_, rfl⟩
          have HTL : Hid (T.data.toList = t) := show _ = _ from by rw [hT]; rfl
          have HFT : Hid (R = if t.length ≠ n then .error 6 else if crc t ≠ be4 X4 then .error 7 else .ok t) := show _ = _ from by
           rw [HF2.out, hq, show unpL 1 EL n = urun EL [] n from rfl, hu]
          rw [hu] at hun
          have hun2 : ∀ w, Calls Tryd.prog 73 #[.string E, .int .i64 n] w fun e w' => e = .returned (.tuple #[.string T, .int .i64 0]) ∧ Below w.heap.size w w' := fun w => by rw [hT]; exact hun w
          have HU := Lib.hid hun2
          clear hu hun hun2 hT
          go_enter Tryd.func40, Tryd.ntmps40
          go_wp2_with fail
          refine (HRN.out _).mono ?_
          rintro e w1 ⟨rfl, rfl⟩
          go_wp2_with fail
          refine (HU.out _).mono ?_
          rintro e w2 ⟨rfl, hb2⟩
          have HB2 := Lib.hid hb2
          clear hb2
          go_upto_region 29 with fail
          by_cases h7 : T.size = n
          ·have d5 : ((T.size : Int) != n) = false := by rw [bne_eq_false_iff_eq]; omega
           have hh := fun w => head_any 1 T w (by omega) (by omega)
           obtain ⟨Hs, hHs2⟩ : ∃ Hs, Hs = bstr (headL 1 T.data.toList) := ⟨_, rfl⟩
           rw [← hHs2] at hh
           have HH := Lib.hid hh
           have htn : t.length = n := by rw [← HTL.out]; exact h7
           have HLT : Hid (Hs.data.toList = UInt8.ofNat 1 :: (numEnc n ++ be32 (crc t))) := show _ = _ from by rw [hHs2, bstr_toList, headL, HTL.out, htn]
           have hZz := HHD.out
           rw [hq] at hZz
           have HZZ := Lib.hid hZz
           clear hh hHs2 hZz
           by_cases h8 : crc t = be4 X4
           ·have HF3 : Hid (R = .ok t) := show _ = _ from by rw [HFT.out, if_neg (by simpa using htn), if_neg (by simpa using h8)]
            have hne : (Hs.toList == Z.toList) = true := by rw [ByteArray.toList_eq, ByteArray.toList_eq, HLT.out, HZZ.out, h8, be32_be4 HX44.out]; simp
            clear htn h7 h8
            go_wp2_with fail
            refine wp_region_classW (fun W => Below w1.heap.size w1 W) (by kernel_rfl) (by kernel_rfl) (HB2.out).drew ?_
            iterate 2
             refine WQ.gen (v := ?_) (by kernel_rfl) ?_ ?_
             rotate_left
             ·intro W hC
              go_simp
              try with_reducible rfl
             refine WQ.eq (a' := ?_) ?_ ?_
             rotate_left
             ·try simp only [Act.put, List.setIfInBounds_toArray, List.set_cons_zero, List.set_cons_succ]
              exact rfl
            refine WQ.call (f := 21) (args := #[.int .i64 (1 : Nat), .string T]) (v := .string Hs) (by kernel_rfl) (fun W hC => ?_) (fun W hC => ?_) ?_
            ·go_simp
             try with_reducible rfl
            ·exact (HH.out W).mono fun e w' h => ⟨h.1, bw_call hC h.2⟩
            iterate 5
             refine WQ.eq (a' := ?_) ?_ ?_
             rotate_left
             ·try simp only [Act.put, List.setIfInBounds_toArray, List.set_cons_zero, List.set_cons_succ]
              exact rfl
             refine WQ.gen (v := ?_) (by kernel_rfl) ?_ ?_
             rotate_left
             ·intro W hC
              go_simp
              try with_reducible rfl
            refine WQ.eq (a' := ?_) ?_ ?_
            rotate_left
            ·try simp only [Act.put, List.setIfInBounds_toArray, List.set_cons_zero, List.set_cons_succ]
             exact rfl
            refine WQ.nil ?_
            intro w8 hB8
            have HB8 := Lib.hid hB8
            clear hB8
            go_wp2_with fail
            go_ret2
            exact ⟨by rw [HF3.out, ← HTL.out]; rfl, HB8.out⟩
           ·have HF3 : Hid (R = .error 7) := show _ = _ from by rw [HFT.out, if_neg (by simpa using htn), if_pos h8]
            have hne : (Hs.toList == Z.toList) = false := by
             rw [ByteArray.toList_eq, ByteArray.toList_eq, beq_eq_false_iff_ne]
             intro e
             rw [HLT.out, HZZ.out] at e
             have e2 := List.append_cancel_left (List.cons.inj e).2
             exact h8 (by rw [← e2, be4_be32 (crc_lt _)])
            clear htn h7 h8
            go_wp2_with fail
            refine wp_region_classW (fun W => Below w1.heap.size w1 W) (by kernel_rfl) (by kernel_rfl) (HB2.out).drew ?_
            iterate 2
             refine WQ.gen (v := ?_) (by kernel_rfl) ?_ ?_
             rotate_left
             ·intro W hC
              go_simp
              try with_reducible rfl
             refine WQ.eq (a' := ?_) ?_ ?_
             rotate_left
             ·try simp only [Act.put, List.setIfInBounds_toArray, List.set_cons_zero, List.set_cons_succ]
              exact rfl
            refine WQ.call (f := 21) (args := #[.int .i64 (1 : Nat), .string T]) (v := .string Hs) (by kernel_rfl) (fun W hC => ?_) (fun W hC => ?_) ?_
            ·go_simp
             try with_reducible rfl
            ·exact (HH.out W).mono fun e w' h => ⟨h.1, bw_call hC h.2⟩
            iterate 5
             refine WQ.eq (a' := ?_) ?_ ?_
             rotate_left
             ·try simp only [Act.put, List.setIfInBounds_toArray, List.set_cons_zero, List.set_cons_succ]
              exact rfl
             refine WQ.gen (v := ?_) (by kernel_rfl) ?_ ?_
             rotate_left
             ·intro W hC
              go_simp
              try with_reducible rfl
            refine WQ.eq (a' := ?_) ?_ ?_
            rotate_left
            ·try simp only [Act.put, List.setIfInBounds_toArray, List.set_cons_zero, List.set_cons_succ]
             exact rfl
            refine WQ.nil ?_
            intro w8 hB8
            have HB8 := Lib.hid hB8
            clear hB8
            go_wp2_with fail
            go_ret2
            exact ⟨by rw [HF3.out]; rfl, HB8.out⟩
          ·have d5 : ((T.size : Int) != n) = true := by rw [bne_iff_ne]; omega
           have HF3 : Hid (R = .error 6) := show _ = _ from by rw [HFT.out, if_pos (by rw [← HTL.out]; exact h7)]
           clear h7
           go_wp2_with fail
           go_ret2
           exact ⟨by rw [HF3.out]; rfl, HB2.out⟩
        ·have hun := fun w => rwunpack7_any E n w hEs (by omega)
         rw [unW_nat, HEX.out] at hun
         cases hu : uwin8 EL n with
         | error er =>
          have HF3 : Hid (R = .error er) := show _ = _ from by
           rw [HF2.out, hq, show unpL 2 EL n = uwin8 EL n from rfl, hu]
          have he : (er != 0) = true := by
           rcases unpL_err (w := 2) (l := EL) (m := n) hu with rfl | rfl | rfl <;> decide
          rw [hu] at hun
          have HU := Lib.hid hun
          clear hu hun
          go_enter Tryd.func40, Tryd.ntmps40
          go_wp2_with fail
          refine (HRN.out _).mono ?_
          rintro e w1 ⟨rfl, rfl⟩
          go_wp2_with fail
          refine (HU.out _).mono ?_
          rintro e w2 ⟨rfl, hb2⟩
          simp only [unV]
          go_wp2_with fail
          go_ret2
          exact ⟨by rw [HF3.out]; rfl, hb2⟩
         | ok t =>
          obtain ⟨T, hT⟩ : ∃ T, T = bstr t := ⟨_, rfl⟩
          have HTL : Hid (T.data.toList = t) := show _ = _ from by rw [hT]; rfl
          have HFT : Hid (R = if t.length ≠ n then .error 6 else if crc t ≠ be4 X4 then .error 7 else .ok t) := show _ = _ from by
           rw [HF2.out, hq, show unpL 2 EL n = uwin8 EL n from rfl, hu]
          rw [hu] at hun
          have hun2 : ∀ w, Calls Tryd.prog 72 #[.string E, .int .i64 n] w fun e w' => e = .returned (.tuple #[.string T, .int .i64 0]) ∧ Below w.heap.size w w' := fun w => by rw [hT]; exact hun w
          have HU := Lib.hid hun2
          clear hu hun hun2 hT
          go_enter Tryd.func40, Tryd.ntmps40
          go_wp2_with fail
          refine (HRN.out _).mono ?_
          rintro e w1 ⟨rfl, rfl⟩
          go_wp2_with fail
          refine (HU.out _).mono ?_
          rintro e w2 ⟨rfl, hb2⟩
          have HB2 := Lib.hid hb2
          clear hb2
          go_upto_region 29 with fail
          by_cases h7 : T.size = n
          ·have d5 : ((T.size : Int) != n) = false := by rw [bne_eq_false_iff_eq]; omega
           have hh := fun w => head_any 2 T w (by omega) (by omega)
           obtain ⟨Hs, hHs2⟩ : ∃ Hs, Hs = bstr (headL 2 T.data.toList) := ⟨_, rfl⟩
           rw [← hHs2] at hh
           have HH := Lib.hid hh
           have htn : t.length = n := by rw [← HTL.out]; exact h7
           have HLT : Hid (Hs.data.toList = UInt8.ofNat 2 :: (numEnc n ++ be32 (crc t))) := show _ = _ from by rw [hHs2, bstr_toList, headL, HTL.out, htn]
           have hZz := HHD.out
           rw [hq] at hZz
           have HZZ := Lib.hid hZz
           clear hh hHs2 hZz
           by_cases h8 : crc t = be4 X4
           ·have HF3 : Hid (R = .ok t) := show _ = _ from by rw [HFT.out, if_neg (by simpa using htn), if_neg (by simpa using h8)]
            have hne : (Hs.toList == Z.toList) = true := by rw [ByteArray.toList_eq, ByteArray.toList_eq, HLT.out, HZZ.out, h8, be32_be4 HX44.out]; simp
            clear htn h7 h8
            go_wp2_with fail
            refine wp_region_classW (fun W => Below w1.heap.size w1 W) (by kernel_rfl) (by kernel_rfl) (HB2.out).drew ?_
            iterate 2
             refine WQ.gen (v := ?_) (by kernel_rfl) ?_ ?_
             rotate_left
             ·intro W hC
              go_simp
              try with_reducible rfl
             refine WQ.eq (a' := ?_) ?_ ?_
             rotate_left
             ·try simp only [Act.put, List.setIfInBounds_toArray, List.set_cons_zero, List.set_cons_succ]
              exact rfl
            refine WQ.call (f := 21) (args := #[.int .i64 (2 : Nat), .string T]) (v := .string Hs) (by kernel_rfl) (fun W hC => ?_) (fun W hC => ?_) ?_
            ·go_simp
             try with_reducible rfl
            ·exact (HH.out W).mono fun e w' h => ⟨h.1, bw_call hC h.2⟩
            iterate 5
             refine WQ.eq (a' := ?_) ?_ ?_
             rotate_left
             ·try simp only [Act.put, List.setIfInBounds_toArray, List.set_cons_zero, List.set_cons_succ]
              exact rfl
             refine WQ.gen (v := ?_) (by kernel_rfl) ?_ ?_
             rotate_left
             ·intro W hC
              go_simp
              try with_reducible rfl
            refine WQ.eq (a' := ?_) ?_ ?_
            rotate_left
            ·try simp only [Act.put, List.setIfInBounds_toArray, List.set_cons_zero, List.set_cons_succ]
             exact rfl
            refine WQ.nil ?_
            intro w8 hB8
            have HB8 := Lib.hid hB8
            clear hB8
            go_wp2_with fail
            go_ret2
            exact ⟨by rw [HF3.out, ← HTL.out]; rfl, HB8.out⟩
           ·have HF3 : Hid (R = .error 7) := show _ = _ from by rw [HFT.out, if_neg (by simpa using htn), if_pos h8]
            have hne : (Hs.toList == Z.toList) = false := by
             rw [ByteArray.toList_eq, ByteArray.toList_eq, beq_eq_false_iff_ne]
             intro e
             rw [HLT.out, HZZ.out] at e
             have e2 := List.append_cancel_left (List.cons.inj e).2
             exact h8 (by rw [← e2, be4_be32 (crc_lt _)])
            clear htn h7 h8
            go_wp2_with fail
            refine wp_region_classW (fun W => Below w1.heap.size w1 W) (by kernel_rfl) (by kernel_rfl) (HB2.out).drew ?_
            iterate 2
             refine WQ.gen (v := ?_) (by kernel_rfl) ?_ ?_
             rotate_left
             ·intro W hC
              go_simp
              try with_reducible rfl
             refine WQ.eq (a' := ?_) ?_ ?_
             rotate_left
             ·try simp only [Act.put, List.setIfInBounds_toArray, List.set_cons_zero, List.set_cons_succ]
              exact rfl
            refine WQ.call (f := 21) (args := #[.int .i64 (2 : Nat), .string T]) (v := .string Hs) (by kernel_rfl) (fun W hC => ?_) (fun W hC => ?_) ?_
            ·go_simp
             try with_reducible rfl
            ·exact (HH.out W).mono fun e w' h => ⟨h.1, bw_call hC h.2⟩
            iterate 5
             refine WQ.eq (a' := ?_) ?_ ?_
             rotate_left
             ·try simp only [Act.put, List.setIfInBounds_toArray, List.set_cons_zero, List.set_cons_succ]
              exact rfl
             refine WQ.gen (v := ?_) (by kernel_rfl) ?_ ?_
             rotate_left
             ·intro W hC
              go_simp
              try with_reducible rfl
            refine WQ.eq (a' := ?_) ?_ ?_
            rotate_left
            ·try simp only [Act.put, List.setIfInBounds_toArray, List.set_cons_zero, List.set_cons_succ]
             exact rfl
            refine WQ.nil ?_
            intro w8 hB8
            have HB8 := Lib.hid hB8
            clear hB8
            go_wp2_with fail
            go_ret2
            exact ⟨by rw [HF3.out]; rfl, HB8.out⟩
          ·have d5 : ((T.size : Int) != n) = true := by rw [bne_iff_ne]; omega
           have HF3 : Hid (R = .error 6) := show _ = _ from by rw [HFT.out, if_pos (by rw [← HTL.out]; exact h7)]
           clear h7
           go_wp2_with fail
           go_ret2
           exact ⟨by rw [HF3.out]; rfl, HB2.out⟩
        ·have hun := fun w => rwunpack7_any E (33068 : Nat) w hEs (by omega)
         rw [unW_nat, HEX.out] at hun
         cases hu : uwin8 EL 33068 with
         | error er =>
          have HF3 : Hid (R = .error er) := show _ = _ from by
           rw [HF2.out, hq]
           simp only [unpL, hu]
          have he : (er != 0) = true := by
           rcases uwin8_err hu with rfl | rfl | rfl <;> decide
          rw [hu] at hun
          have HU := Lib.hid hun
          clear hu hun
          go_enter Tryd.func40, Tryd.ntmps40
          go_wp2_with fail
          refine (HRN.out _).mono ?_
          rintro e w1 ⟨rfl, rfl⟩
          go_wp2_with fail
          refine (HU.out _).mono ?_
          rintro e w2 ⟨rfl, hb2⟩
          simp only [unV]
          go_wp2_with fail
          go_ret2
          exact ⟨by rw [HF3.out]; rfl, hb2⟩
         | ok t1 =>
          obtain ⟨T1, hT1⟩ : ∃ T, T = bstr t1 := ⟨_, rfl⟩
          have hT1s : T1.size ≤ 33068 := by rw [hT1]; exact uwin8_len hu
          have hun6 := fun w => runpack6_any T1 n w (by omega) (by omega)
          rw [unR_nat, show T1.data.toList = t1 by rw [hT1]; rfl] at hun6
          rw [hu] at hun
          have hun7 : ∀ w, Calls Tryd.prog 72 #[.string E, .int .i64 33068] w fun e w' => e = .returned (.tuple #[.string T1, .int .i64 0]) ∧ Below w.heap.size w w' := fun w => by rw [hT1]; exact hun w
          have HU7 := Lib.hid hun7
          cases hu6 : urun t1 [] n with
          | error er =>
           have HF3 : Hid (R = .error er) := show _ = _ from by
            rw [HF2.out, hq]
            simp only [unpL, hu, hu6]
           have he : (er != 0) = true := by
            rcases unpL_err (w := 1) (l := t1) (m := n) hu6 with rfl | rfl | rfl <;> decide
           rw [hu6] at hun6
           have HU := Lib.hid hun6
           clear hu hu6 hun hun6 hun7 hT1
           go_enter Tryd.func40, Tryd.ntmps40
           go_wp2_with fail
           refine (HRN.out _).mono ?_
           rintro e w1 ⟨rfl, rfl⟩
           go_wp2_with fail
           refine (HU7.out _).mono ?_
           rintro e w2 ⟨rfl, hb2⟩
           go_wp2_with fail
           refine (HU.out _).mono ?_
           rintro e w3 ⟨rfl, hb3⟩
           have hb := bw_call hb2 hb3
           simp only [unV]
           go_wp2_with fail
           go_ret2
           exact ⟨by rw [HF3.out]; rfl, hb⟩
          | ok t =>
           obtain ⟨T, hT⟩ : ∃ T, T = bstr t := ⟨_, rfl⟩
           have HTL : Hid (T.data.toList = t) := show _ = _ from by rw [hT]; rfl
           have HFT : Hid (R = if t.length ≠ n then .error 6 else if crc t ≠ be4 X4 then .error 7 else .ok t) := show _ = _ from by
            rw [HF2.out, hq]
            simp only [unpL, hu, hu6]
           rw [hu6] at hun6
           have hun2 : ∀ w, Calls Tryd.prog 73 #[.string T1, .int .i64 n] w fun e w' => e = .returned (.tuple #[.string T, .int .i64 0]) ∧ Below w.heap.size w w' := fun w => by rw [hT]; exact hun6 w
           have HU := Lib.hid hun2
           clear hu hu6 hun hun2 hun6 hun7 hT hT1
           go_enter Tryd.func40, Tryd.ntmps40
           go_wp2_with fail
           refine (HRN.out _).mono ?_
           rintro e w1 ⟨rfl, rfl⟩
           go_wp2_with fail
           refine (HU7.out _).mono ?_
           rintro e w2 ⟨rfl, hb2⟩
           go_wp2_with fail
           refine (HU.out _).mono ?_
           rintro e w3 ⟨rfl, hb3⟩
           have HB2 := Lib.hid (bw_call hb2 hb3)
           clear hb2 hb3
           go_upto_region 29 with fail
           by_cases h7 : T.size = n
           ·have d5 : ((T.size : Int) != n) = false := by rw [bne_eq_false_iff_eq]; omega
            have hh := fun w => head_any 3 T w (by omega) (by omega)
            obtain ⟨Hs, hHs2⟩ : ∃ Hs, Hs = bstr (headL 3 T.data.toList) := ⟨_, rfl⟩
            rw [← hHs2] at hh
            have HH := Lib.hid hh
            have htn : t.length = n := by rw [← HTL.out]; exact h7
            have HLT : Hid (Hs.data.toList = UInt8.ofNat 3 :: (numEnc n ++ be32 (crc t))) := show _ = _ from by rw [hHs2, bstr_toList, headL, HTL.out, htn]
            have hZz := HHD.out
            rw [hq] at hZz
            have HZZ := Lib.hid hZz
            clear hh hHs2 hZz
            by_cases h8 : crc t = be4 X4
            ·have HF3 : Hid (R = .ok t) := show _ = _ from by rw [HFT.out, if_neg (by simpa using htn), if_neg (by simpa using h8)]
             have hne : (Hs.toList == Z.toList) = true := by rw [ByteArray.toList_eq, ByteArray.toList_eq, HLT.out, HZZ.out, h8, be32_be4 HX44.out]; simp
             clear htn h7 h8
             go_wp2_with fail
             refine wp_region_classW (fun W => Below w1.heap.size w1 W) (by kernel_rfl) (by kernel_rfl) (HB2.out).drew ?_
             iterate 2
              refine WQ.gen (v := ?_) (by kernel_rfl) ?_ ?_
              rotate_left
              ·intro W hC
               go_simp
               try with_reducible rfl
              refine WQ.eq (a' := ?_) ?_ ?_
              rotate_left
              ·try simp only [Act.put, List.setIfInBounds_toArray, List.set_cons_zero, List.set_cons_succ]
               exact rfl
             refine WQ.call (f := 21) (args := #[.int .i64 (3 : Nat), .string T]) (v := .string Hs) (by kernel_rfl) (fun W hC => ?_) (fun W hC => ?_) ?_
             ·go_simp
              try with_reducible rfl
             ·exact (HH.out W).mono fun e w' h => ⟨h.1, bw_call hC h.2⟩
             iterate 5
              refine WQ.eq (a' := ?_) ?_ ?_
              rotate_left
              ·try simp only [Act.put, List.setIfInBounds_toArray, List.set_cons_zero, List.set_cons_succ]
               exact rfl
              refine WQ.gen (v := ?_) (by kernel_rfl) ?_ ?_
              rotate_left
              ·intro W hC
               go_simp
               try with_reducible rfl
             refine WQ.eq (a' := ?_) ?_ ?_
             rotate_left
             ·try simp only [Act.put, List.setIfInBounds_toArray, List.set_cons_zero, List.set_cons_succ]
              exact rfl
             refine WQ.nil ?_
             intro w8 hB8
             have HB8 := Lib.hid hB8
             clear hB8
             go_wp2_with fail
             go_ret2
             exact ⟨by rw [HF3.out, ← HTL.out]; rfl, HB8.out⟩
            ·have HF3 : Hid (R = .error 7) := show _ = _ from by rw [HFT.out, if_neg (by simpa using htn), if_pos h8]
             have hne : (Hs.toList == Z.toList) = false := by
              rw [ByteArray.toList_eq, ByteArray.toList_eq, beq_eq_false_iff_ne]
              intro e
              rw [HLT.out, HZZ.out] at e
              have e2 := List.append_cancel_left (List.cons.inj e).2
              exact h8 (by rw [← e2, be4_be32 (crc_lt _)])
             clear htn h7 h8
             go_wp2_with fail
             refine wp_region_classW (fun W => Below w1.heap.size w1 W) (by kernel_rfl) (by kernel_rfl) (HB2.out).drew ?_
             iterate 2
              refine WQ.gen (v := ?_) (by kernel_rfl) ?_ ?_
              rotate_left
              ·intro W hC
               go_simp
               try with_reducible rfl
              refine WQ.eq (a' := ?_) ?_ ?_
              rotate_left
              ·try simp only [Act.put, List.setIfInBounds_toArray, List.set_cons_zero, List.set_cons_succ]
               exact rfl
             refine WQ.call (f := 21) (args := #[.int .i64 (3 : Nat), .string T]) (v := .string Hs) (by kernel_rfl) (fun W hC => ?_) (fun W hC => ?_) ?_
             ·go_simp
              try with_reducible rfl
             ·exact (HH.out W).mono fun e w' h => ⟨h.1, bw_call hC h.2⟩
             iterate 5
              refine WQ.eq (a' := ?_) ?_ ?_
              rotate_left
              ·try simp only [Act.put, List.setIfInBounds_toArray, List.set_cons_zero, List.set_cons_succ]
               exact rfl
              refine WQ.gen (v := ?_) (by kernel_rfl) ?_ ?_
              rotate_left
              ·intro W hC
               go_simp
               try with_reducible rfl
             refine WQ.eq (a' := ?_) ?_ ?_
             rotate_left
             ·try simp only [Act.put, List.setIfInBounds_toArray, List.set_cons_zero, List.set_cons_succ]
              exact rfl
             refine WQ.nil ?_
             intro w8 hB8
             have HB8 := Lib.hid hB8
             clear hB8
             go_wp2_with fail
             go_ret2
             exact ⟨by rw [HF3.out]; rfl, HB8.out⟩
           ·have d5 : ((T.size : Int) != n) = true := by rw [bne_iff_ne]; omega
            have HF3 : Hid (R = .error 6) := show _ = _ from by rw [HFT.out, if_pos (by rw [← HTL.out]; exact h7)]
            clear h7
            go_wp2_with fail
            go_ret2
            exact ⟨by rw [HF3.out]; rfl, HB2.out⟩
end Go.Proofs.YtbeooeihedhabaaDoor
