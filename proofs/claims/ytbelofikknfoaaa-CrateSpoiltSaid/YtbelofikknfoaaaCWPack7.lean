/- cavalcaderef07.Pack: what the call does. -/
import Derived.Test.YtbelofikknfoaaaCWin
import Derived.Test.YtbelofikknfoaaaCTwo
namespace Go.Proofs.Ytbelofikknfoaaa
open Go.RowKit
set_option maxHeartbeats 4000000
set_option maxRecDepth 4000
theorem rest_snoc {K : ByteArray} {f a : Nat} (hf : f ≤ a) (ha : a < K.size) : (K.data.toList.drop f).take (a - f) ++ [K[a]'ha] = (K.data.toList.drop f).take (a + 1 - f) := by
  have hl : K.data.toList.length = K.size := rfl
  rw [show a + 1 - f = a - f + 1 by omega, List.take_add_one, List.getElem?_drop, show f + (a - f) = a by omega, List.getElem?_eq_getElem (by rw [hl]; exact ha)]
  rfl
theorem litW_eq {K : ByteArray} {f a d : Nat} (h : a - f = d + 1) : litW K f a = UInt8.ofNat d :: (K.data.toList.drop f).take (a - f) := by
  rw [litW, if_pos (by omega), show a - f - 1 = d by omega]
theorem Two.sh {B : Nat} {v : Value} {xs : List UInt8} {u : Value} {ys : List UInt8} {w : World} (h : Two B v xs u ys w) : ∃ q c, v = .slice q xs.length c := h.one.shape
theorem byte_src3 {w W : World} {x y z : Int} {b c d : UInt8} {t : TypeId} (hx : x = (b.toNat : Int)) (hy : y = (c.toNat : Int)) (hz : z = (d.toNat : Int)) (h : W.heap[w.heap.size]? = some (.cells #[.int .u8 x, .int .u8 y, .int .u8 z] t (0, 0))) : Src Try.prog 1 34 (.slice (some ⟨w.heap.size, 0, none⟩) 3 3) [b, c, d].length (u8s [b, c, d]) W := by
  subst hx hy hz
  refine Src.ofSlice W Try.underlying34 ⟨w.heap.size, 0, none⟩ 3 3 (u8s [b, c, d]) rfl (fun j u hj => ?_) (u8s_one _)
  have hadd : (⟨w.heap.size, 0, none⟩ : Addr).add j = ⟨w.heap.size, j, none⟩ := by unfold Addr.add; split <;> simp_all
  rw [hadd, cell_of_row W w.heap.size _ _ _ _ h]
  rw [← List.getElem?_toArray] at hj
  exact hj
theorem Two.sh2 {B : Nat} {v : Value} {xs : List UInt8} {u : Value} {ys : List UInt8} {w : World} (h : Two B v xs u ys w) : ∃ q n c, v = .slice q n c ∧ n = xs.length := by
  obtain ⟨q, c, h⟩ := h.one.shape
  exact ⟨q, _, c, h, rfl⟩
theorem rwpack7_any (s : ByteArray) (w : World) (hs : s.size ≤ 65536) :
    Calls Try.prog 28 #[.string s] w fun e w' => e = .returned (.string (bstr (wpk s.data.toList))) ∧ Below w.heap.size w w' := by
  obtain ⟨S, hS⟩ : ∃ S, S = bstr statL := ⟨_, rfl⟩
  have hS68 : S.size = 68 := by rw [hS]; rfl
  have HSt : Hid (∀ w, Calls Try.prog 33 #[] w fun e w' => e = .returned (.string S) ∧ Below w.heap.size w w') := show ∀ w, _ from fun w => by rw [hS]; exact static_any w
  obtain ⟨K, hK⟩ : ∃ K, K = S ++ s := ⟨_, rfl⟩
  have hKs : K.size = s.size + 68 := by rw [hK, ByteArray.size_append, hS68]; omega
  obtain ⟨R, hR⟩ : ∃ R, R = wpk s.data.toList := ⟨_, rfl⟩
  have HR : Hid (wpF K 68 68 = R) := show _ = _ from by rw [hR, hK, hS, wpk, ← bstr_append]; rfl
  have hRl : R.length ≤ 131072 := by
    have := wpF_length K _ 68 68 (Nat.le_refl _) (Nat.le_refl _) (by omega)
    rw [HR.out] at this
    omega
  rw [← hR]
  have hKb : K.size ≤ 65604 := by omega
  have hK68 : 68 ≤ K.size := by omega
  clear hKs
  have HK := Lib.hid hK
  have hsz : S.size + s.size ≤ 9223372036854775807 := by omega
  clear hR hS hK
  have HS68 := Lib.hid hS68
  clear hS68
  go_enter Try.func28, Try.ntmps28
  go_wp2_with fail
  refine (HSt.out _).mono ?_
  rintro e w1 ⟨rfl, hb1⟩
  have HB1 := Lib.hid hb1
  have h0 : OwnZ w.heap.size (.slice (some ⟨w1.heap.size, 0, none⟩) 0 0) [] (w1.alloc (.cells #[] 5)) := .inr ⟨w1.heap.size, 0, [], (0, 0), rfl, hb1.size, heap_alloc_new w1 _, rfl, by decide, .inl rfl⟩
  have h1 := Two.fresh h0
  rw [show (w1.alloc (.cells #[] 5)).heap.size = w1.heap.size + 1 by simp] at h1
  have H1 := Lib.hid h1
  have HW1 := Lib.hid (bw_alloc (bw_alloc hb1 (.cells #[] 5)) (.cells #[] 5))
  clear hb1 h0 h1
  go_wp2_with fail
  rw [← HK.out]
  refine (HSt.out _).mono ?_
  rintro e w2 ⟨rfl, hb2⟩
  have HT0 := Lib.hid (H1.out.below hb2 (Nat.le_refl _))
  have HB0 := Lib.hid (bw_call HW1.out hb2)
  clear hb2
  go_wp2_with fail
  go_loopw [4, 5, 6] (fun b r at_ wr => ∃ (a f : Nat) (q : Option Addr) (nn c : Nat) (q2 : Option Addr) (n2 c2 : Nat) (O RR : List UInt8), a ≤ K.size ∧ f ≤ a ∧ n2 < 128 ∧ at_ = .int .i64 a ∧ b = .slice q nn c ∧ r = .slice q2 n2 c2 ∧ Hid (n2 = a - f) ∧ Hid (a = K.size → f = a) ∧ Hid (RR = (K.data.toList.drop f).take (a - f)) ∧ Hid (O ++ wpF K a f = R) ∧ Hid (Two w.heap.size (.slice q nn c) O (.slice q2 n2 c2) RR wr) ∧ Hid (Below w.heap.size w wr)) (fun _ _ at_ _ => K.size - (intOf at_).toNat)
  case atStart => exact ⟨68, 68, _, _, _, _, _, _, [], [], by omega, by omega, by omega, by rw [HS68.out], rfl, rfl, show _ = _ from rfl, show _ → _ from fun _ => rfl, show _ = _ from by simp, HR, HT0, HB0⟩
  case round =>
    obtain ⟨a, f, q, nn, c, q2, n2, c2, O, RR, ha, hf, hn2, rfl, rfl, rfl, HN2, HAF, HRR, HEQ, HT, HB⟩ := hrel
    have hOl : O.length ≤ 131072 := by
      have h1 := congrArg List.length HEQ.out
      rw [List.length_append] at h1
      omega
    by_cases hlt : a < K.size
    · have d0 : decide ((a : Int) < K.size) = true := decide_eq_true (by omega)
      have f0 : (0 : Int) ≤ a := by omega
      have f1 : (a : Int) < K.size := by omega
      have hc0 := fun w => best_any K a w (by omega) ha
      obtain ⟨n, bk, hnb⟩ : ∃ n b, bst K a = (n, b) := ⟨_, _, rfl⟩
      rw [hnb] at hc0
      have hbl := bstD_le ha (min a 32768)
      have hbe : bstD K a (min a 32768) = (n, bk) := hnb
      rw [hbe] at hbl
      have hnl : n ≤ 130 := hbl.1
      have hna : a + n ≤ K.size := hbl.2.1
      have hbk : bk ≤ 32768 := by have := hbl.2.2.1; simp only at this; omega
      have hbk1 : 0 < n → 1 ≤ bk := hbl.2.2.2
      have HC0 := Lib.hid hc0
      have HNB := Lib.hid hnb
      clear hc0 hnb hbl hbe
      have e1 : IntKind.i64.wrap ((a : Int) + 1) = ((a + 1 : Nat) : Int) := by rw [IntWalk.i64_in _ (by omega)]; omega
      by_cases h4 : n < 4
      · have d1 : decide ((n : Int) < 4) = true := decide_eq_true (by omega)
        have d2 : decide ((4 : Int) ≤ n) = false := decide_eq_false (by omega)
        obtain ⟨d, hd⟩ : ∃ d, d = a - f := ⟨_, rfl⟩
        have hd1 : a + 1 - f = d + 1 := by omega
        have hRl2 : RR.length = d := by
          have hl : K.data.toList.length = K.size := rfl
          rw [HRR.out, List.length_take, List.length_drop, hl]; omega
        have hd127 : d < 128 := by have := HN2.out; omega
        have HRS : Hid (RR ++ [K[a]'hlt] = (K.data.toList.drop f).take (a + 1 - f)) := show _ = _ from by rw [HRR.out]; exact rest_snoc hf hlt
        have HLW : Hid (litW K f (a + 1) = UInt8.ofNat d :: (RR ++ [K[a]'hlt])) := show _ = _ from by rw [litW_eq hd1, HRS.out]
        have HLIT : Hid (a + 1 - f ≠ 128 → wpF K a f = wpF K (a + 1) f) := show _ → _ from fun h => wpF_lit hlt (by rw [HNB.out]; exact h4) h
        have HCUT : Hid (a + 1 - f = 128 → wpF K a f = litW K f (a + 1) ++ wpF K (a + 1) (a + 1)) := show _ → _ from fun h => wpF_cut hlt (by rw [HNB.out]; exact h4) h
        have HLAST : Hid (a + 1 = K.size → wpF K a f = litW K f (a + 1) ++ wpF K (a + 1) (a + 1)) := show _ → _ from fun h => wpF_last hlt (by rw [HNB.out]; exact h4) h
        have HDC : Hid ((d : Int) = ((UInt8.ofNat d).toNat : Int)) := show _ = _ from by rw [UInt8.toNat_ofNat_of_lt' (show d < 256 by omega)]
        have g6 : IntKind.u8.wrap (d : Int) = d := IntWalk.u8_in _ (by omega)
        have HD1 := Lib.hid hd1
        clear hd hd1
        obtain ⟨a1, ha1⟩ : ∃ x, x = a + 1 := ⟨_, rfl⟩
        rw [← ha1] at e1 HRS HLW HLIT HCUT HLAST HD1
        have HA1 := Lib.hid ha1
        have HRL2 := Lib.hid hRl2
        clear ha1 hRl2
        have HBITS : Hid (∀ n4, n4 = (RR ++ [K[a]'hlt]).length → n4 = d + 1) := show ∀ n4, _ from fun n4 h => by rw [h, List.length_append, HRL2.out]; rfl
        by_cases hend : a1 = K.size
        · have x2 : ((a1 : Int) == K.size) = true := by rw [hend]; simp
          have HEND := Lib.hid hend
          have hend1 : a1 ≤ K.size := by omega
          clear hend
          by_cases hcut : d = 127
          · have hcut1 : 127 ≤ d := by omega
            clear hcut
            go_wp2_with fail
            refine (HC0.out _).mono ?_
            rintro e w3 ⟨rfl, hb3⟩
            have HT3 := Lib.hid (HT.out.below hb3 (Nat.le_refl _))
            have HB3 := Lib.hid (bw_call HB.out hb3)
            clear hb3
            have HTA := Lib.hid (HT3.out.below (bw_alloc (Below.refl w3.heap.size w3) (.cells #[.int .u8 ((K[a]'hlt).toNat : Int)] 5)) (Nat.le_refl _)).swap
            have HWA := Lib.hid (bw_alloc HB3.out (.cells #[.int .u8 ((K[a]'hlt).toNat : Int)] 5))
            go_wp2_with (first
              | (at_builtin; refine wpList_appTwo rfl (.tmp 28) (.tmp 32) 34 rfl w.heap.size (.slice q2 n2 c2) RR (.slice q nn c) O rfl HTA.out _ rfl [K[a]'hlt] (byte_src rfl (heap_alloc_new w3 _)) Nat.one_pos (by rw [HRL2.out]; simp; omega) ?_; intro v4 w4 HT4 HB4; obtain ⟨q4, n4, c4, rfl, hn4⟩ := Two.sh2 HT4.out; have hn5 := HBITS.out n4 hn4; have HN4 := Lib.hid hn4; clear hn4; have x0 : decide ((0 : Int) < n4) = true := decide_eq_true (by omega); have y0 : decide (0 < n4) = true := decide_eq_true (by omega); have z0 : 0 < n4 := (by omega); have x1 : ((n4 : Int) == 128) = true := (by rw [beq_iff_eq]; omega); have g5 : IntKind.i64.wrap ((n4 : Int) - 1) = (d : Int) := (by rw [IntWalk.i64_in _ (by omega)]; omega); have HN5 := Lib.hid hn5; clear hn5; have HTC := Lib.hid (HT4.out.swap.below (bw_alloc (Below.refl w4.heap.size w4) (.cells #[.int .u8 (d : Int)] 5)) (Nat.le_refl _)); have HWC := Lib.hid (bw_alloc (HWA.out.trans HB4.out) (.cells #[.int .u8 (d : Int)] 5)))
              | (at_builtin; refine wpList_appTwo rfl (.tmp 54) (.tmp 59) 34 rfl w.heap.size (.slice q nn c) O (.slice q4 n4 c4) (RR ++ [K[a]'hlt]) rfl HTC.out _ rfl [UInt8.ofNat d] (byte_src HDC.out (heap_alloc_new w4 _)) Nat.one_pos (by simp; omega) ?_; intro v5 w5 HT5 HB5; obtain ⟨q5, n5, c5, rfl⟩ := OwnZ.sh HT5.out.one; have HW5 := Lib.hid (HWC.out.trans HB5.out))
              | (at_builtin; refine wpList_appTwo rfl (.tmp 61) (.tmp 62) 34 rfl w.heap.size (.slice q5 n5 c5) (O ++ [UInt8.ofNat d]) (.slice q4 n4 c4) (RR ++ [K[a]'hlt]) rfl HT5.out _ rfl (RR ++ [K[a]'hlt]) (HT5.out.two.src (by rw [← HN4.out, HN5.out]; omega)) (by rw [← HN4.out, HN5.out]; omega) (by rw [← HN4.out, HN5.out]; simp; omega) ?_; intro v6 w6 HT6 HB6; obtain ⟨q6, n6, c6, rfl⟩ := OwnZ.sh HT6.out.one; have HW6 := Lib.hid (bw_alloc (HW5.out.trans HB6.out) (.cells #[] 5)); have HT7 := Lib.hid (Two.fresh HT6.out.one)))
            go_roundw
            case rel => exact ⟨a1, a1, q6, n6, c6, _, 0, 0, _, [], by have := HA1.out; omega, by omega, by omega, by go_num, rfl, rfl, show _ = _ from by omega, show _ → _ from fun _ => rfl, show _ = _ from by simp, show _ = _ from by rw [← HEQ.out, HLAST.out HEND.out, HLW.out]; simp [List.append_assoc], HT7.out, HW6⟩
            case measure => simp [intOf]; have := HA1.out; omega
          · go_wp2_with fail
            refine (HC0.out _).mono ?_
            rintro e w3 ⟨rfl, hb3⟩
            have HT3 := Lib.hid (HT.out.below hb3 (Nat.le_refl _))
            have HB3 := Lib.hid (bw_call HB.out hb3)
            clear hb3
            have HTA := Lib.hid (HT3.out.below (bw_alloc (Below.refl w3.heap.size w3) (.cells #[.int .u8 ((K[a]'hlt).toNat : Int)] 5)) (Nat.le_refl _)).swap
            have HWA := Lib.hid (bw_alloc HB3.out (.cells #[.int .u8 ((K[a]'hlt).toNat : Int)] 5))
            go_wp2_with (first
              | (at_builtin; refine wpList_appTwo rfl (.tmp 28) (.tmp 32) 34 rfl w.heap.size (.slice q2 n2 c2) RR (.slice q nn c) O rfl HTA.out _ rfl [K[a]'hlt] (byte_src rfl (heap_alloc_new w3 _)) Nat.one_pos (by rw [HRL2.out]; simp; omega) ?_; intro v4 w4 HT4 HB4; obtain ⟨q4, n4, c4, rfl, hn4⟩ := Two.sh2 HT4.out; have hn5 := HBITS.out n4 hn4; have HN4 := Lib.hid hn4; clear hn4; have x0 : decide ((0 : Int) < n4) = true := decide_eq_true (by omega); have y0 : decide (0 < n4) = true := decide_eq_true (by omega); have z0 : 0 < n4 := (by omega); have x1 : ((n4 : Int) == 128) = false := (by rw [beq_eq_false_iff_ne]; omega); have g5 : IntKind.i64.wrap ((n4 : Int) - 1) = (d : Int) := (by rw [IntWalk.i64_in _ (by omega)]; omega); have HN5 := Lib.hid hn5; clear hn5; have HTC := Lib.hid (HT4.out.swap.below (bw_alloc (Below.refl w4.heap.size w4) (.cells #[.int .u8 (d : Int)] 5)) (Nat.le_refl _)); have HWC := Lib.hid (bw_alloc (HWA.out.trans HB4.out) (.cells #[.int .u8 (d : Int)] 5)))
              | (at_builtin; refine wpList_appTwo rfl (.tmp 54) (.tmp 59) 34 rfl w.heap.size (.slice q nn c) O (.slice q4 n4 c4) (RR ++ [K[a]'hlt]) rfl HTC.out _ rfl [UInt8.ofNat d] (byte_src HDC.out (heap_alloc_new w4 _)) Nat.one_pos (by simp; omega) ?_; intro v5 w5 HT5 HB5; obtain ⟨q5, n5, c5, rfl⟩ := OwnZ.sh HT5.out.one; have HW5 := Lib.hid (HWC.out.trans HB5.out))
              | (at_builtin; refine wpList_appTwo rfl (.tmp 61) (.tmp 62) 34 rfl w.heap.size (.slice q5 n5 c5) (O ++ [UInt8.ofNat d]) (.slice q4 n4 c4) (RR ++ [K[a]'hlt]) rfl HT5.out _ rfl (RR ++ [K[a]'hlt]) (HT5.out.two.src (by rw [← HN4.out, HN5.out]; omega)) (by rw [← HN4.out, HN5.out]; omega) (by rw [← HN4.out, HN5.out]; simp; omega) ?_; intro v6 w6 HT6 HB6; obtain ⟨q6, n6, c6, rfl⟩ := OwnZ.sh HT6.out.one; have HW6 := Lib.hid (bw_alloc (HW5.out.trans HB6.out) (.cells #[] 5)); have HT7 := Lib.hid (Two.fresh HT6.out.one)))
            go_roundw
            case rel => exact ⟨a1, a1, q6, n6, c6, _, 0, 0, _, [], by have := HA1.out; omega, by omega, by omega, by go_num, rfl, rfl, show _ = _ from by omega, show _ → _ from fun _ => rfl, show _ = _ from by simp, show _ = _ from by rw [← HEQ.out, HLAST.out HEND.out, HLW.out]; simp [List.append_assoc], HT7.out, HW6⟩
            case measure => simp [intOf]; have := HA1.out; omega
        · have x2 : ((a1 : Int) == K.size) = false := by rw [beq_eq_false_iff_ne]; omega
          by_cases hcut : d = 127
          · have hcut1 : 127 ≤ d := by omega
            clear hcut
            go_wp2_with fail
            refine (HC0.out _).mono ?_
            rintro e w3 ⟨rfl, hb3⟩
            have HT3 := Lib.hid (HT.out.below hb3 (Nat.le_refl _))
            have HB3 := Lib.hid (bw_call HB.out hb3)
            clear hb3
            have HTA := Lib.hid (HT3.out.below (bw_alloc (Below.refl w3.heap.size w3) (.cells #[.int .u8 ((K[a]'hlt).toNat : Int)] 5)) (Nat.le_refl _)).swap
            have HWA := Lib.hid (bw_alloc HB3.out (.cells #[.int .u8 ((K[a]'hlt).toNat : Int)] 5))
            go_wp2_with (first
              | (at_builtin; refine wpList_appTwo rfl (.tmp 28) (.tmp 32) 34 rfl w.heap.size (.slice q2 n2 c2) RR (.slice q nn c) O rfl HTA.out _ rfl [K[a]'hlt] (byte_src rfl (heap_alloc_new w3 _)) Nat.one_pos (by rw [HRL2.out]; simp; omega) ?_; intro v4 w4 HT4 HB4; obtain ⟨q4, n4, c4, rfl, hn4⟩ := Two.sh2 HT4.out; have hn5 := HBITS.out n4 hn4; have HN4 := Lib.hid hn4; clear hn4; have x0 : decide ((0 : Int) < n4) = true := decide_eq_true (by omega); have y0 : decide (0 < n4) = true := decide_eq_true (by omega); have z0 : 0 < n4 := (by omega); have x1 : ((n4 : Int) == 128) = true := (by rw [beq_iff_eq]; omega); have g5 : IntKind.i64.wrap ((n4 : Int) - 1) = (d : Int) := (by rw [IntWalk.i64_in _ (by omega)]; omega); have HN5 := Lib.hid hn5; clear hn5; have HTC := Lib.hid (HT4.out.swap.below (bw_alloc (Below.refl w4.heap.size w4) (.cells #[.int .u8 (d : Int)] 5)) (Nat.le_refl _)); have HWC := Lib.hid (bw_alloc (HWA.out.trans HB4.out) (.cells #[.int .u8 (d : Int)] 5)))
              | (at_builtin; refine wpList_appTwo rfl (.tmp 54) (.tmp 59) 34 rfl w.heap.size (.slice q nn c) O (.slice q4 n4 c4) (RR ++ [K[a]'hlt]) rfl HTC.out _ rfl [UInt8.ofNat d] (byte_src HDC.out (heap_alloc_new w4 _)) Nat.one_pos (by simp; omega) ?_; intro v5 w5 HT5 HB5; obtain ⟨q5, n5, c5, rfl⟩ := OwnZ.sh HT5.out.one; have HW5 := Lib.hid (HWC.out.trans HB5.out))
              | (at_builtin; refine wpList_appTwo rfl (.tmp 61) (.tmp 62) 34 rfl w.heap.size (.slice q5 n5 c5) (O ++ [UInt8.ofNat d]) (.slice q4 n4 c4) (RR ++ [K[a]'hlt]) rfl HT5.out _ rfl (RR ++ [K[a]'hlt]) (HT5.out.two.src (by rw [← HN4.out, HN5.out]; omega)) (by rw [← HN4.out, HN5.out]; omega) (by rw [← HN4.out, HN5.out]; simp; omega) ?_; intro v6 w6 HT6 HB6; obtain ⟨q6, n6, c6, rfl⟩ := OwnZ.sh HT6.out.one; have HW6 := Lib.hid (bw_alloc (HW5.out.trans HB6.out) (.cells #[] 5)); have HT7 := Lib.hid (Two.fresh HT6.out.one)))
            go_roundw
            case rel => exact ⟨a1, a1, q6, n6, c6, _, 0, 0, _, [], by have := HA1.out; omega, by omega, by omega, by go_num, rfl, rfl, show _ = _ from by omega, show _ → _ from fun _ => rfl, show _ = _ from by simp, show _ = _ from by rw [← HEQ.out, HCUT.out (by have := HD1.out; omega), HLW.out]; simp [List.append_assoc], HT7.out, HW6⟩
            case measure => simp [intOf]; have := HA1.out; omega
          · go_wp2_with fail
            refine (HC0.out _).mono ?_
            rintro e w3 ⟨rfl, hb3⟩
            have HT3 := Lib.hid (HT.out.below hb3 (Nat.le_refl _))
            have HB3 := Lib.hid (bw_call HB.out hb3)
            clear hb3
            have HTA := Lib.hid (HT3.out.below (bw_alloc (Below.refl w3.heap.size w3) (.cells #[.int .u8 ((K[a]'hlt).toNat : Int)] 5)) (Nat.le_refl _)).swap
            have HWA := Lib.hid (bw_alloc HB3.out (.cells #[.int .u8 ((K[a]'hlt).toNat : Int)] 5))
            go_wp2_with ((at_builtin; refine wpList_appTwo rfl (.tmp 28) (.tmp 32) 34 rfl w.heap.size (.slice q2 n2 c2) RR (.slice q nn c) O rfl HTA.out _ rfl [K[a]'hlt] (byte_src rfl (heap_alloc_new w3 _)) Nat.one_pos (by rw [HRL2.out]; simp; omega) ?_); intro v4 w4 HT4 HB4; obtain ⟨q4, n4, c4, rfl, hn4⟩ := Two.sh2 HT4.out; have hn5 := HBITS.out n4 hn4; clear hn4; have x0 : decide ((0 : Int) < n4) = true := decide_eq_true (by omega); have y0 : decide (0 < n4) = true := decide_eq_true (by omega); have z0 : 0 < n4 := (by omega); have x1 : ((n4 : Int) == 128) = false := (by rw [beq_eq_false_iff_ne]; omega); have HN5 := Lib.hid hn5; clear hn5)
            have HW4 := Lib.hid (HWA.out.trans HB4.out)
            go_roundw
            case rel => exact ⟨a1, f, q, nn, c, q4, n4, c4, O, _, by have := HA1.out; omega, by have := HA1.out; omega, by have := HN5.out; omega, by go_num, rfl, rfl, show _ = _ from by have := HD1.out; have := HN5.out; omega, show _ → _ from fun h => absurd h hend, HRS, show _ = _ from by rw [← HLIT.out (by have := HD1.out; omega)]; exact HEQ.out, HT4.out.swap, HW4⟩
            case measure => simp [intOf]; have := HA1.out; omega
      · have d1 : decide ((n : Int) < 4) = false := decide_eq_false (by omega)
        have d2 : decide ((4 : Int) ≤ n) = true := decide_eq_true (by omega)
        have h4' : 4 ≤ n := by omega
        obtain ⟨M, hM⟩ : ∃ M, M = n + 124 := ⟨_, rfl⟩
        obtain ⟨D, hD⟩ : ∃ D, bk = D + 1 := ⟨bk - 1, by have := hbk1 (by omega); omega⟩
        obtain ⟨an, han⟩ : ∃ x, x = a + n := ⟨_, rfl⟩
        have g1 : IntKind.i64.wrap ((n : Int) + 124) = (M : Int) := by rw [IntWalk.i64_in _ (by omega)]; omega
        have g2 : IntKind.u8.wrap (M : Int) = M := IntWalk.u8_in _ (by omega)
        have g3 : IntKind.i64.wrap ((bk : Int) - 1) = (D : Int) := by rw [IntWalk.i64_in _ (by omega)]; omega
        have g4 : IntKind.i64.wrap ((a : Int) + n) = (an : Int) := by rw [IntWalk.i64_in _ (by omega)]; omega
        have HRL3 : Hid (RR.length = n2) := show _ = _ from by
          have hl : K.data.toList.length = K.size := rfl
          have := HN2.out
          rw [HRR.out, List.length_take, List.length_drop, hl]; omega
        have HMT : Hid (wpF K a f = litW K f a ++ (mtW n bk ++ wpF K an an)) := show _ = _ from by rw [han]; exact wpF_match hlt HNB.out h4'
        have HAN := Lib.hid han
        have HM := Lib.hid hM
        have HD := Lib.hid hD
        have han1 : a < an := by omega
        have han2 : an ≤ K.size := by omega
        have hM2 : M < 256 := by omega
        have hD2 : D < 32768 := by omega
        clear hM hD han
        have HM1 : Hid ((M : Int) = ((UInt8.ofNat M).toNat : Int)) := show _ = _ from by rw [UInt8.toNat_ofNat_of_lt' (show M < 256 by omega)]
        have HM3 : Hid ((D : Int) / 256 = ((UInt8.ofNat (D / 256)).toNat : Int)) := show _ = _ from by rw [UInt8.toNat_ofNat_of_lt' (show D / 256 < 256 by omega)]; omega
        have HM4 : Hid ((D : Int) % 256 = ((UInt8.ofNat (D % 256)).toNat : Int)) := show _ = _ from by rw [UInt8.toNat_ofNat_of_lt' (show D % 256 < 256 by omega)]; omega
        have HMW : Hid (mtW n bk = [UInt8.ofNat M, UInt8.ofNat (D / 256), UInt8.ofNat (D % 256)]) := show _ = _ from by rw [HM.out, HD.out]; rfl
        by_cases hfa : f < a
        · obtain ⟨d, hd⟩ : ∃ d, a - f = d + 1 := ⟨a - f - 1, by omega⟩
          have HLW : Hid (litW K f a = UInt8.ofNat d :: RR) := show _ = _ from by rw [litW_eq hd, HRR.out]
          have HN5 : Hid (n2 = d + 1) := show _ = _ from by rw [HN2.out, hd]
          have hn51 : n2 ≤ d + 1 := by rw [HN5.out]; omega
          have hn52 : d + 1 ≤ n2 := by rw [HN5.out]; omega
          have x0 : decide ((0 : Int) < n2) = true := decide_eq_true (by omega)
          have y0 : decide (0 < n2) = true := decide_eq_true (by omega)
          have z0 : 0 < n2 := by omega
          have g5 : IntKind.i64.wrap ((n2 : Int) - 1) = (d : Int) := by rw [IntWalk.i64_in _ (by omega)]; omega
          have g6 : IntKind.u8.wrap (d : Int) = d := IntWalk.u8_in _ (by omega)
          have HDC : Hid ((d : Int) = ((UInt8.ofNat d).toNat : Int)) := show _ = _ from by rw [UInt8.toNat_ofNat_of_lt' (show d < 256 by omega)]
          clear hd
          go_wp2_with fail
          refine (HC0.out _).mono ?_
          rintro e w3 ⟨rfl, hb3⟩
          have HT3 := Lib.hid (HT.out.below hb3 (Nat.le_refl _))
          have HB3 := Lib.hid (bw_call HB.out hb3)
          clear hb3
          have HTC := Lib.hid (HT3.out.below (bw_alloc (Below.refl w3.heap.size w3) (.cells #[.int .u8 (d : Int)] 5)) (Nat.le_refl _))
          have HWC := Lib.hid (bw_alloc HB3.out (.cells #[.int .u8 (d : Int)] 5))
          go_wp2_with (first
            | (at_builtin; refine wpList_appTwo rfl (.tmp 54) (.tmp 59) 34 rfl w.heap.size (.slice q nn c) O (.slice q2 n2 c2) RR rfl HTC.out _ rfl [UInt8.ofNat d] (byte_src HDC.out (heap_alloc_new w3 _)) Nat.one_pos (by simp; omega) ?_; intro v5 w5 HT5 HB5; obtain ⟨q5, n5, c5, rfl⟩ := OwnZ.sh HT5.out.one; have HW5 := Lib.hid (HWC.out.trans HB5.out))
            | (at_builtin; refine wpList_appTwo rfl (.tmp 61) (.tmp 62) 34 rfl w.heap.size (.slice q5 n5 c5) (O ++ [UInt8.ofNat d]) (.slice q2 n2 c2) RR rfl HT5.out _ rfl RR (HT5.out.two.src (by rw [HRL3.out]; omega)) (by rw [HRL3.out]; omega) (by rw [HRL3.out]; simp; omega) ?_; intro v6 w6 HT6 HB6; obtain ⟨q6, n6, c6, rfl⟩ := OwnZ.sh HT6.out.one; have h9 := byte_src3 (w := w6.alloc (.cells #[] 5)) (W := (w6.alloc (.cells #[] 5)).alloc (.cells #[.int .u8 (M : Int), .int .u8 ((D : Int) / 256), .int .u8 ((D : Int) % 256)] 5)) (t := 5) HM1.out HM3.out HM4.out (heap_alloc_new _ _); rw [show (w6.alloc (.cells #[] 5)).heap.size = w6.heap.size + 1 by simp] at h9; have HS9 := Lib.hid h9; clear h9; have HT7 := Lib.hid ((Two.fresh HT6.out.one).below (bw_alloc (Below.refl _ _) (.cells #[.int .u8 (M : Int), .int .u8 ((D : Int) / 256), .int .u8 ((D : Int) % 256)] 5)) (Nat.le_refl _)); have HW7 := Lib.hid (bw_alloc (bw_alloc (HW5.out.trans HB6.out) (.cells #[] 5)) (.cells #[.int .u8 (M : Int), .int .u8 ((D : Int) / 256), .int .u8 ((D : Int) % 256)] 5)))
            | (at_builtin; refine wpList_appTwo rfl (.tmp 67) (.tmp 79) 34 rfl w.heap.size (.slice q6 n6 c6) (O ++ [UInt8.ofNat d] ++ RR) _ [] rfl HT7.out _ rfl [UInt8.ofNat M, UInt8.ofNat (D / 256), UInt8.ofNat (D % 256)] HS9.out (Nat.succ_pos _) (by simp [HRL3.out]; omega) ?_; intro v8 w8 HT8 HB8; obtain ⟨q8, n8, c8, rfl⟩ := OwnZ.sh HT8.out.one; have HW8 := Lib.hid (HW7.out.trans HB8.out)))
          go_roundw
          case rel => exact ⟨an, an, q8, n8, c8, _, 0, 0, _, [], by omega, by omega, by omega, by go_num, rfl, rfl, show _ = _ from by omega, show _ → _ from fun _ => rfl, show _ = _ from by simp, show _ = _ from by rw [← HEQ.out, HMT.out, HLW.out, HMW.out]; simp [List.append_assoc], HT8.out, HW8⟩
          case measure => simp [intOf]; omega
        · have hn0 : n2 ≤ 0 := by have := HN2.out; omega
          have x0 : decide ((0 : Int) < n2) = false := decide_eq_false (by omega)
          have y0 : decide (0 < n2) = false := decide_eq_false (by omega)
          have HLW : Hid (litW K f a = []) := show _ = _ from by rw [litW, if_neg hfa]
          have HRN : Hid (RR = []) := show _ = _ from List.length_eq_zero_iff.1 (by rw [HRL3.out]; omega)
          go_wp2_with fail
          refine (HC0.out _).mono ?_
          rintro e w3 ⟨rfl, hb3⟩
          have HT3 := Lib.hid (HT.out.below hb3 (Nat.le_refl _))
          have HB3 := Lib.hid (bw_call HB.out hb3)
          clear hb3
          have HTC := Lib.hid (HT3.out.below (bw_alloc (Below.refl w3.heap.size w3) (.cells #[.int .u8 (M : Int), .int .u8 ((D : Int) / 256), .int .u8 ((D : Int) % 256)] 5)) (Nat.le_refl _))
          have HWC := Lib.hid (bw_alloc HB3.out (.cells #[.int .u8 (M : Int), .int .u8 ((D : Int) / 256), .int .u8 ((D : Int) % 256)] 5))
          go_wp2_with (at_builtin; refine wpList_appTwo rfl (.tmp 67) (.tmp 79) 34 rfl w.heap.size (.slice q nn c) O (.slice q2 n2 c2) RR rfl HTC.out _ rfl [UInt8.ofNat M, UInt8.ofNat (D / 256), UInt8.ofNat (D % 256)] (byte_src3 HM1.out HM3.out HM4.out (heap_alloc_new w3 _)) (Nat.succ_pos _) (by simp; omega) ?_; intro v8 w8 HT8 HB8; obtain ⟨q8, n8, c8, rfl⟩ := OwnZ.sh HT8.out.one; have HW8 := Lib.hid (HWC.out.trans HB8.out))
          go_roundw
          case rel => exact ⟨an, an, q8, n8, c8, _, n2, c2, _, RR, by omega, by omega, by omega, by go_num, rfl, rfl, show _ = _ from by omega, show _ → _ from fun _ => rfl, show _ = _ from by rw [HRN.out]; simp, show _ = _ from by rw [← HEQ.out, HMT.out, HLW.out, HMW.out]; simp [List.append_assoc], HT8.out, HW8⟩
          case measure => simp [intOf]; omega
    · obtain rfl : a = K.size := by omega
      have d0 : decide ((K.size : Int) < K.size) = false := decide_eq_false (by omega)
      have hcv : (convert 34 9 (.slice q nn c)).run Try.prog wr = .ok (.string (bstr R)) wr := by
        have h1 := HT.out.one.conv
        have h2 := HEQ.out
        rw [HAF.out rfl, wpF_end (Nat.le_refl _), litW_none, List.append_nil] at h2
        rw [h2] at h1
        exact h1
      go_wp2_with fail
      go_ret
      exact ⟨rfl, HB.out⟩
end Go.Proofs.Ytbelofikknfoaaa
