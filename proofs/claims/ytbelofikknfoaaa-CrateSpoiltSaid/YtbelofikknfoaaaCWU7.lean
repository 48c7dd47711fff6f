/- cavalcaderef07.Unpack: what the call does. -/
import Derived.Test.YtbelofikknfoaaaCWUA
import Derived.Test.YtbelofikknfoaaaCBest
import Derived.Deep.QuietTactic
import Derived.BigQuiet
import Derived.Outline
namespace Go.Proofs.Ytbelofikknfoaaa
open Go.RowKit
set_option maxHeartbeats 4000000
set_option maxRecDepth 4000
theorem rwunpack7_any (s : ByteArray) (most : Int) (w : World) (hs : s.size ≤ 140737488351232) (hm : most ≤ 1048576) :
    Calls Try.prog 24 #[.string s, .int .i64 most] w fun e w' => e = .returned (unW s most) ∧ Below w.heap.size w w' := by
  by_cases h0 : most < 0
  · exact rwunpack7_neg s most w h0
  · obtain ⟨m, rfl⟩ : ∃ m : Nat, most = m := ⟨most.toNat, by omega⟩
    rw [unW, if_neg h0, Int.toNat_natCast]
    have hmb : m ≤ 1048576 := by omega
    have hd : decide ((m : Int) < 0) = false := decide_eq_false (by omega)
    obtain ⟨S, hS⟩ : ∃ S, S = bstr statL := ⟨_, rfl⟩
    have hS68 : S.size = 68 := by rw [hS]; rfl
    have HSL : Hid (S.data.toList = statL) := show _ = _ from by rw [hS]; rfl
    have HSt : Hid (∀ w, Calls Try.prog 33 #[] w fun e w' => e = .returned (.string S) ∧ Below w.heap.size w w') := show ∀ w, _ from fun w => by rw [hS]; exact static_any w
    obtain ⟨L, hL⟩ : ∃ L, L = s.data.toList := ⟨_, rfl⟩
    have HL := Lib.hid hL
    obtain ⟨R, hR⟩ : ∃ R, R = uwin L statL m := ⟨_, rfl⟩
    rw [← hL, ← hR]
    have HR0 : Hid (uwin (L.drop 0) S.data.toList m = R) := show _ = _ from by rw [HSL.out, hR]; rfl
    have HS68 : Hid (S.data.toList.length = 68) := show _ = _ from hS68
    have hsm : S.size ≤ maxLen := by rw [hS68]; decide
    clear hL hR h0 hm hS hS68
    go_enter Try.func24, Try.ntmps24
    go_wp2_with fail
    refine (HSt.out _).mono ?_
    rintro e w1 ⟨rfl, hb1⟩
    obtain ⟨v0, W0, hcv, hO0, hB0⟩ := conv_own w1 S hsm
    have HO0 := Lib.hid ((hO0.mono hb1.size : OwnB w.heap.size v0 S.data.toList W0))
    have HB0 := Lib.hid (bw_call hb1 hB0)
    obtain ⟨q0, n0, c0, rfl⟩ : ∃ q n c, v0 = .slice q n c := OwnZ.sh (B := w.heap.size) (.inr HO0.out)
    have HN0 : Hid (n0 = 68) := show _ = _ from by
      obtain ⟨g, cap, rest, fr, hv, -⟩ := HO0.out
      injection hv with h1 h2 h3
      rw [h2]; exact HS68.out
    have hn0 : 68 ≤ n0 := by rw [HN0.out]; omega
    have hn1 : n0 ≤ 68 := by rw [HN0.out]; omega
    clear hO0 hB0 hb1 hsm
    go_wp2_with fail
    go_loopg [6, 8] s.size (fun gk b at_ wr => ∃ (a : Nat) (q : Option Addr) (nn c : Nat) (K : List UInt8), a + gk = s.size ∧ 68 ≤ nn ∧ nn ≤ m + 68 ∧ at_ = .int .i64 a ∧ b = .slice q nn c ∧ Hid (nn = K.length) ∧ Hid (uwin (L.drop a) K m = R) ∧ Hid (OwnZ w.heap.size (.slice q nn c) K wr) ∧ Hid (Below w.heap.size w wr))
    case atStart => exact ⟨0, _, _, _, _, by omega, by omega, by rw [HN0.out]; omega, rfl, rfl, show _ = _ from by rw [HN0.out, HS68.out], HR0, show _ ∨ _ from .inr HO0.out, HB0⟩
    case round =>
      obtain ⟨a, q, nn, c, K, hag, h68, hnm, rfl, rfl, HN, HEQ, HO, HB⟩ := hrel
      generalize gk = go at *
      obtain ⟨g, cc, hgc⟩ : ∃ g cc, q = some ⟨g, 0, none⟩ ∧ c = cc := by
        obtain ⟨g, c1, h1, -⟩ := HO.out.cell (by have := HN.out; omega)
        injection h1 with h1 h2 h3
        exact ⟨g, c, h1, rfl⟩
      obtain ⟨rfl, rfl⟩ := hgc
      by_cases hlt : a < s.size
      · have f0 : (0 : Int) ≤ a := by omega
        have f1 : (a : Int) < s.size := by omega
        have hcb := byte_lt (s[a]'hlt)
        by_cases h255 : (s[a]'hlt).toNat = 255
        · have d0 : (((s[a]'hlt).toNat : Int) == 255) = true := by rw [beq_iff_eq]; omega
          have HF : Hid (R = .error 6) := show _ = _ from by rw [← HEQ.out, HL.out]; exact sw_255 hlt h255
          clear h255
          go_wp2_with fail
          go_ret2
          exact ⟨by rw [HF.out]; rfl, HB.out⟩
        · have d0 : (((s[a]'hlt).toNat : Int) == 255) = false := by rw [beq_eq_false_iff_ne]; omega
          obtain ⟨k1, hk1⟩ : ∃ k, k = a + 1 := ⟨_, rfl⟩
          have e1 : IntKind.i64.wrap ((a : Int) + 1) = (k1 : Int) := by rw [IntWalk.i64_in _ (by omega)]; omega
          obtain ⟨r0, hr0⟩ : ∃ k, k = nn - n0 := ⟨_, rfl⟩
          obtain ⟨r1, hr1⟩ : ∃ k, k = r0 + (s[a]'hlt).toNat := ⟨_, rfl⟩
          have e6 : IntKind.i64.wrap ((nn : Int) - n0) = (r0 : Int) := by rw [IntWalk.i64_in _ (by omega)]; omega
          have e7 : IntKind.i64.wrap ((r0 : Int) + ((s[a]'hlt).toNat : Int)) = (r1 : Int) := by rw [IntWalk.i64_in _ (by omega)]; omega
          by_cases hc : (s[a]'hlt).toNat < 128
          · have d1 : decide (((s[a]'hlt).toNat : Int) < 128) = true := decide_eq_true (by omega)
            have d1' : decide ((s[a]'hlt).toNat < 128) = true := decide_eq_true hc
            obtain ⟨c1, hc1⟩ : ∃ k, k = (s[a]'hlt).toNat + 1 := ⟨_, rfl⟩
            obtain ⟨p0, hp0⟩ : ∃ k, k = a + (s[a]'hlt).toNat := ⟨_, rfl⟩
            obtain ⟨k2, hk2⟩ : ∃ k, k = k1 + c1 := ⟨_, rfl⟩
            obtain ⟨r2, hr2⟩ : ∃ k, k = r0 + c1 := ⟨_, rfl⟩
            have e2 : IntKind.i64.wrap ((a : Int) + ((s[a]'hlt).toNat : Int)) = (p0 : Int) := by rw [IntWalk.i64_in _ (by omega)]; omega
            have e5 : IntKind.i64.wrap ((p0 : Int) + 2) = (k2 : Int) := by rw [IntWalk.i64_in _ (by omega)]; omega
            have e8 : IntKind.i64.wrap ((r1 : Int) + 1) = (r2 : Int) := by rw [IntWalk.i64_in _ (by omega)]; omega
            by_cases h1 : s.size < k2
            · have d2 : decide ((s.size : Int) < k2) = true := decide_eq_true (by omega)
              have HF : Hid (R = .error 5) := show _ = _ from by rw [← HEQ.out, HL.out]; exact sw_short hlt hc (by omega)
              clear hk1 hc1 hp0 hr0 hr1 hk2 hr2 h255
              go_wp2_with fail
              go_ret2
              exact ⟨by rw [HF.out]; rfl, HB.out⟩
            · have d2 : decide ((s.size : Int) < k2) = false := decide_eq_false (by omega)
              by_cases h2 : m < r2
              · have d3 : decide ((m : Int) < r2) = true := decide_eq_true (by omega)
                have HF : Hid (R = .error 3) := show _ = _ from by rw [← HEQ.out, HL.out]; exact sw_big hlt hc (by omega) (by have := HN.out; omega)
                clear hk1 hc1 hp0 hr0 hr1 hk2 hr2 h255
                go_wp2_with fail
                go_ret2
                exact ⟨by rw [HF.out]; rfl, HB.out⟩
              · have d3 : decide ((m : Int) < r2) = false := decide_eq_false (by omega)
                have f2 : k1 ≤ k2 := by omega
                have f3 : (k1 : Int) ≤ k2 := by omega
                have f4 : (k2 : Int) ≤ s.size := by omega
                have f5 : (0 : Int) ≤ k1 := by omega
                have HST : Hid (uwin (L.drop k2) (K ++ (L.drop k1).take c1) m = R) := show _ = _ from by
                  rw [← HEQ.out, HL.out, sw_lit hlt hc (by omega) (by have := HN.out; omega), hk2, hk1, hc1]
                have HXE : Hid ((s.extract k1 k2).data.toList = (L.drop k1).take c1) := show _ = _ from by rw [ByteArray.data_extract, Array.toList_extract, HL.out]; show List.take (k2 - k1) _ = _; rw [show k2 - k1 = c1 by omega]
                have HXL : Hid ((s.extract k1 k2).data.toList.length = c1) := show _ = _ from by
                  have hl : s.data.toList.length = s.size := rfl
                  rw [HXE.out, List.length_take, List.length_drop, HL.out, hl]; omega
                have HXP : Hid (0 < (s.extract k1 k2).data.toList.length) := show _ < _ from by rw [HXL.out]; omega
                have hcc : c1 ≤ 128 := by omega
                have hk2s : k2 ≤ s.size := by omega
                have hak2 : a < k2 := by omega
                have hrc : nn + c1 ≤ m + 68 := by omega
                clear hk1 hc1 hp0 hr0 hr1 hk2 hr2 h255
                go_wp2_with ((at_builtin; refine wpList_appZ rfl (.tmp 46) (.tmp 54) 9 rfl w.heap.size (.slice (some ⟨g, 0, none⟩) nn c) K rfl HO.out _ rfl (s.extract k1 k2).data.toList (Src.ofString wr Try.underlying9 (s.extract k1 k2)) HXP.out (by rw [HXL.out]; have := HN.out; omega) ?_); intro v6 w6 HO6 HB6)
                have hsh := HO6.out.shape
                rw [HXE.out] at hsh HO6
                obtain ⟨q6, c6, rfl⟩ := hsh
                have HL6 : Hid ((K ++ (L.drop k1).take c1).length = nn + c1) := show _ = _ from by rw [← HXE.out, List.length_append, HXL.out, ← HN.out]
                have HW6 := Lib.hid (HB.out.trans HB6.out)
                go_wp2_with fail
                go_roundg (s.size - k2)
                case measure => omega
                case rel => exact ⟨k2, q6, _, c6, _, by omega, by rw [HL6.out]; omega, by rw [HL6.out]; exact hrc, by go_num, rfl, rfl, HST, HO6, HW6⟩
          · have d1 : decide (((s[a]'hlt).toNat : Int) < 128) = false := decide_eq_false (by omega)
            have d1' : decide ((s[a]'hlt).toNat < 128) = false := decide_eq_false hc
            obtain ⟨k3, hk3⟩ : ∃ k, k = a + 3 := ⟨_, rfl⟩
            have e2 : IntKind.i64.wrap ((a : Int) + 3) = (k3 : Int) := by rw [IntWalk.i64_in _ (by omega)]; omega
            by_cases h1 : s.size < k3
            · have d2 : decide ((s.size : Int) < k3) = true := decide_eq_true (by omega)
              have HF : Hid (R = .error 5) := show _ = _ from by rw [← HEQ.out, HL.out]; exact sw_short2 hlt hc h255 (by omega)
              clear hk1 hr0 hr1 hk3 h255
              go_wp2_with fail
              go_ret2
              exact ⟨by rw [HF.out]; rfl, HB.out⟩
            · have d2 : decide ((s.size : Int) < k3) = false := decide_eq_false (by omega)
              have hs1 : a + 1 < s.size := by omega
              have hs2 : a + 2 < s.size := by omega
              have hk1s : k1 < s.size := by omega
              obtain ⟨k2, hk2⟩ : ∃ k, k = a + 2 := ⟨_, rfl⟩
              have e3 : IntKind.i64.wrap ((a : Int) + 2) = (k2 : Int) := by rw [IntWalk.i64_in _ (by omega)]; omega
              have hk2s : k2 < s.size := by omega
              have f2 : (k1 : Int) < s.size := by omega
              have f3 : (k2 : Int) < s.size := by omega
              have f4 : (0 : Int) ≤ k1 := by omega
              have f5 : (0 : Int) ≤ k2 := by omega
              have hx := byte_lt (s[k1]'hk1s)
              have hy := byte_lt (s[k2]'hk2s)
              obtain ⟨d, hd⟩ : ∃ d, d = (s[k1]'hk1s).toNat * 256 + (s[k2]'hk2s).toNat := ⟨_, rfl⟩
              obtain ⟨x, hxx⟩ : ∃ x, x = (s[k1]'hk1s).toNat * 256 := ⟨_, rfl⟩
              have e4 : IntKind.i64.wrap (((s[k1]'hk1s).toNat : Int) * 256) = (x : Int) := by rw [IntWalk.i64_in _ (by omega)]; omega
              have e5 : IntKind.i64.wrap ((x : Int) + ((s[k2]'hk2s).toNat : Int)) = (d : Int) := by rw [IntWalk.i64_in _ (by omega)]; omega
              have hdb : d < 65536 := by omega
              have HD : Hid (d = (s[a + 1]'hs1).toNat * 256 + (s[a + 2]'hs2).toNat) := show _ = _ from by subst hk1 hk2; exact hd
              clear hd hxx
              have HHC : Hid (¬ (s[a]'hlt).toNat < 128) := hc
              by_cases hdd : 32768 ≤ d
              · have d3 : decide (32768 ≤ (d : Int)) = true := decide_eq_true (by omega)
                have d3' : decide (32768 ≤ d) = true := decide_eq_true hdd
                have HF : Hid (R = .error 6) := show _ = _ from by rw [← HEQ.out, HL.out]; exact sw_form hlt hc h255 hs1 hs2 HD.out (.inl hdd)
                clear hk1 hr0 hr1 hk2 hk3 h255 HD
                go_wp2_with fail
                go_quiet (fail)
                have HB2 := Lib.hid (bw_drewN HB.out nq)
                have HO2 : Hid (OwnZ w.heap.size (.slice (some ⟨g, 0, none⟩) nn c) K (wr.drewN nq)) := show OwnZ _ _ _ _ from HO.out
                generalize wr.drewN nq = w2 at *
                go_wp2_with fail
                go_ret2
                exact ⟨by rw [HF.out]; rfl, HB2.out⟩
              · have d3 : decide (32768 ≤ (d : Int)) = false := decide_eq_false (by omega)
                have d3' : decide (32768 ≤ d) = false := decide_eq_false hdd
                obtain ⟨D, hD⟩ : ∃ k, k = d + 1 := ⟨_, rfl⟩
                have e8 : IntKind.i64.wrap ((d : Int) + 1) = (D : Int) := by rw [IntWalk.i64_in _ (by omega)]; omega
                by_cases hdk : nn < D
                · have d4 : decide ((nn : Int) < D) = true := decide_eq_true (by omega)
                  have d4' : decide (nn < D) = true := decide_eq_true hdk
                  have HF : Hid (R = .error 6) := show _ = _ from by rw [← HEQ.out, HL.out]; exact sw_form hlt hc h255 hs1 hs2 HD.out (.inr (by have := HN.out; omega))
                  clear hk1 hr0 hr1 hk2 hk3 h255 hD
                  go_wp2_with fail
                  go_quiet (fail)
                  have HB2 := Lib.hid (bw_drewN HB.out nq)
                  have HO2 : Hid (OwnZ w.heap.size (.slice (some ⟨g, 0, none⟩) nn c) K (wr.drewN nq)) := show OwnZ _ _ _ _ from HO.out
                  generalize wr.drewN nq = w2 at *
                  go_wp2_with fail
                  go_ret2
                  exact ⟨by rw [HF.out]; rfl, HB2.out⟩
                · have d4 : decide ((nn : Int) < D) = false := decide_eq_false (by omega)
                  have d4' : decide (nn < D) = false := decide_eq_false hdk
                  obtain ⟨n1, hn1⟩ : ∃ k, k = (s[a]'hlt).toNat - 124 := ⟨_, rfl⟩
                  have e9 : IntKind.i64.wrap (((s[a]'hlt).toNat : Int) - 124) = (n1 : Int) := by rw [IntWalk.i64_in _ (by omega)]; omega
                  obtain ⟨r3, hr3⟩ : ∃ k, k = r0 + n1 := ⟨_, rfl⟩
                  have e10 : IntKind.i64.wrap ((r1 : Int) - 124) = (r3 : Int) := by rw [IntWalk.i64_in _ (by omega)]; omega
                  by_cases h2 : m < r3
                  · have d5 : decide ((m : Int) < r3) = true := decide_eq_true (by omega)
                    have HF : Hid (R = .error 3) := show _ = _ from by rw [← HEQ.out, HL.out]; exact sw_big2 hlt hc h255 hs1 hs2 HD.out (by omega) (by have := HN.out; omega) (by have := HN.out; omega)
                    clear hn1 hr3 hD
                    clear hk1 hr0 hr1 hk2 hk3 h255 d4'
                    go_wp2_with fail
                    go_quiet (fail)
                    have HB2 := Lib.hid (bw_drewN HB.out nq)
                    have HO2 : Hid (OwnZ w.heap.size (.slice (some ⟨g, 0, none⟩) nn c) K (wr.drewN nq)) := show OwnZ _ _ _ _ from HO.out
                    generalize wr.drewN nq = w2 at *
                    go_wp2_with fail
                    go_ret2
                    exact ⟨by rw [HF.out]; rfl, HB2.out⟩
                  · have d5 : decide ((m : Int) < r3) = false := decide_eq_false (by omega)
                    have HST : Hid (uwin (L.drop k3) (cpy n1 d K) m = R) := show _ = _ from by
                      rw [← HEQ.out, HL.out, sw_cpy hlt hc h255 hs1 hs2 HD.out (by omega) (by have := HN.out; omega) (by have := HN.out; omega), hk3, hn1]
                    have hnb : n1 ≤ 130 := by omega
                    have hnp : 4 ≤ n1 := by omega
                    have hrc : nn + n1 ≤ m + 68 := by omega
                    have hdn : d < nn := by omega
                    have hk3s : k3 ≤ s.size := by omega
                    have hak3 : a < k3 := by omega
                    clear hn1 hr3 hD
                    clear hk1 hr0 hr1 hk2 hk3 h255 d4'
                    go_wp2_with fail
                    go_quiet (fail)
                    have HB2 := Lib.hid (bw_drewN HB.out nq)
                    have HO2 : Hid (OwnZ w.heap.size (.slice (some ⟨g, 0, none⟩) nn c) K (wr.drewN nq)) := show OwnZ _ _ _ _ from HO.out
                    generalize wr.drewN nq = w2 at *
                    go_wp2_with fail
                    have HO0 : Hid (OwnZ w.heap.size (.slice (some ⟨g, 0, none⟩) nn c) (cpy 0 d K) w2) := show OwnZ _ _ _ _ from HO2.out
                    have HN9 : Hid (K.length = nn) := show _ = _ from HN.out.symm
                    have hnb2 : nn ≤ 1048576 + 68 := by omega
                    go_loopg [6, 11] n1 (fun gk b i wx => ∃ (i0 : Nat) (q : Option Addr) (n6 c : Nat), i0 + gk = n1 ∧ i = .int .i64 i0 ∧ b = .slice q n6 c ∧ n6 = nn + i0 ∧ Hid (OwnZ w.heap.size (.slice q n6 c) (cpy i0 d K) wx) ∧ Hid (Below w.heap.size w wx))
                    case atStart => exact ⟨0, _, nn, c, by omega, rfl, rfl, by omega, HO0, HB2⟩
                    case round =>
                      obtain ⟨i0, q2, n6, c2, hi, rfl, rfl, hn6, HOi, HBi⟩ := hrel
                      by_cases hin : i0 < n1
                      · have d6 : decide ((i0 : Int) < n1) = true := decide_eq_true (by omega)
                        have HLi : Hid ((cpy i0 d K).length = n6) := show _ = _ from by rw [cpy_length, HN9.out, hn6]
                        obtain ⟨g2, c3, hv, hcl⟩ := HOi.out.cell (by rw [HLi.out]; omega)
                        obtain ⟨rfl, -, rfl⟩ : q2 = some ⟨g2, 0, none⟩ ∧ True ∧ c3 = c2 := by injection hv with h1 h2 h3; exact ⟨h1, trivial, h3.symm⟩
                        obtain ⟨z1, hz1⟩ : ∃ k, k = n6 - d := ⟨_, rfl⟩
                        obtain ⟨z2, hz2⟩ : ∃ k, k = z1 - 1 := ⟨_, rfl⟩
                        have e11 : IntKind.i64.wrap ((n6 : Int) - d) = (z1 : Int) := by rw [IntWalk.i64_in _ (by omega)]; omega
                        have e12 : IntKind.i64.wrap ((z1 : Int) - 1) = (z2 : Int) := by rw [IntWalk.i64_in _ (by omega)]; omega
                        have hcl2 := hcl z2 (by rw [HLi.out]; omega)
                        obtain ⟨x, hx⟩ : ∃ x, x = (cpy i0 d K).getD z2 0 := ⟨_, rfl⟩
                        rw [← hx] at hcl2
                        have HSN : Hid (cpy i0 d K ++ [x] = cpy (i0 + 1) d K) := show _ = _ from by
                          rw [cpy_snoc, hx, HLi.out, show n6 - d - 1 = z2 by omega]
                        have fz1 : (0 : Int) ≤ z2 := by omega
                        have fz2 : (z2 : Int) < n6 := by omega
                        have HOA := Lib.hid (HOi.out.below (bw_alloc (Below.refl wr.heap.size wr) (.cells #[.int .u8 (x.toNat : Int)] 5)) (Nat.le_refl _))
                        have HBA := Lib.hid (bw_alloc HBi.out (.cells #[.int .u8 (x.toNat : Int)] 5))
                        have HN6 := Lib.hid hn6
                        have hn61 : n6 ≤ 1048576 + 200 := by omega
                        clear hx hz1 hz2 hn6 hv hcl
                        go_wp2_with ((at_builtin; refine wpList_appZ rfl (.tmp 101) (.tmp 110) 34 rfl w.heap.size (.slice (some ⟨g2, 0, none⟩) n6 c3) (cpy i0 d K) rfl HOA.out _ rfl [x] (byte_src rfl (heap_alloc_new wr _)) Nat.one_pos (by have := HLi.out; simp only [List.length_cons, List.length_nil]; omega) ?_); intro v6 w6 HO6 HB6)
                        have hsh := HO6.out.shape
                        rw [HSN.out] at hsh HO6
                        obtain ⟨q7, c7, rfl⟩ := hsh
                        have HL7 : Hid ((cpy (i0 + 1) d K).length = nn + (i0 + 1)) := show _ = _ from by rw [cpy_length, HN9.out]
                        have HW6 := Lib.hid (HBA.out.trans HB6.out)
                        go_wp2_with fail
                        go_roundg (gk - 1)
                        case measure => omega
                        case rel => exact ⟨i0 + 1, q7, _, c7, by omega, by go_num, rfl, HL7.out, HO6, HW6⟩
                      · obtain rfl : i0 = n1 := by omega
                        have HL7 : Hid (n6 = (cpy i0 d K).length) := show _ = _ from by rw [cpy_length, HN9.out]; exact hn6
                        have HN6 := Lib.hid hn6
                        have hn61 : n6 ≤ m + 68 := by omega
                        have hn62 : 68 ≤ n6 := by omega
                        have d6 : decide ((i0 : Int) < i0) = false := decide_eq_false (by omega)
                        clear hn6
                        go_wp2_with fail
                        go_roundg (s.size - k3)
                        case measure => omega
                        case rel => exact ⟨k3, q2, n6, c2, _, by omega, by omega, by omega, by go_num, rfl, HL7, HST, HOi, HBi⟩
      · obtain rfl : a = s.size := by omega
        have HF : Hid (R = .ok K) := show _ = _ from by rw [← HEQ.out, HL.out]; exact sw_end
        have d0 : decide ((s.size : Int) < s.size) = false := decide_eq_false (by omega)
        have hK68 : bstr (K.drop n0) = bstr (K.drop 68) := by rw [HN0.out]
        have HK68 := Lib.hid hK68
        clear hK68
        by_cases hcn : c = n0
        · have hcv := HO.out.tail0 HN.out hcn
          subst hcn
          go_wp2_with fail
          go_ret2
          exact ⟨by rw [HF.out, HK68.out]; rfl, HB.out⟩
        · have hcv := HO.out.tail (c2 := c - n0) (k := n0) (m := nn - n0) HN.out (by omega)
          go_wp2_with fail
          go_ret2
          exact ⟨by rw [HF.out, HK68.out]; rfl, HB.out⟩
end Go.Proofs.Ytbelofikknfoaaa
