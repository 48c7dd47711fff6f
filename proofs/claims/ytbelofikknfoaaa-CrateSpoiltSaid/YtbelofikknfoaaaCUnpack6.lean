/- cavalcaderef06.Unpack: what the call does. -/
import Derived.Test.YtbelofikknfoaaaCUnpack
namespace Go.Proofs.Ytbelofikknfoaaa
open Go.RowKit
set_option maxHeartbeats 4000000
set_option maxRecDepth 4000
theorem runpack6_any (s : ByteArray) (most : Int) (w : World) (hs : s.size ≤ 140737488351232) (hm : most ≤ 1048576) :
    Calls Try.prog 25 #[.string s, .int .i64 most] w fun e w' => e = .returned (unR s most) ∧ Below w.heap.size w w' := by
  by_cases h0 : most < 0
  · have hd : decide (most < 0) = true := decide_eq_true h0
    rw [unR, if_pos h0]
    clear h0
    go_enter Try.func25, Try.ntmps25
    go_wp2_with fail
    go_ret2
    exact ⟨rfl, Below.refl _ _⟩
  · obtain ⟨m, rfl⟩ : ∃ m : Nat, most = m := ⟨most.toNat, by omega⟩
    rw [unR, if_neg h0, Int.toNat_natCast]
    have hmb : m ≤ 1048576 := by omega
    have hd : decide ((m : Int) < 0) = false := decide_eq_false (by omega)
    obtain ⟨L, hL⟩ : ∃ L, L = s.data.toList := ⟨_, rfl⟩
    have HL := Lib.hid hL
    obtain ⟨R, hR⟩ : ∃ R, R = urun L [] m := ⟨_, rfl⟩
    rw [← hL, ← hR]
    have HR0 : Hid (urun (L.drop 0) [] m = R) := show _ = _ from hR.symm
    have HO00 : Hid (OwnZ w.heap.size (.slice (some ⟨w.heap.size, 0, none⟩) 0 0) [] (w.alloc (.cells #[] 5))) := show _ ∨ _ from .inr ⟨w.heap.size, 0, [], (0, 0), rfl, Nat.le_refl _, heap_alloc_new w _, rfl, by decide, .inl rfl⟩
    have HB00 := Lib.hid (bw_alloc (Below.refl w.heap.size w) (.cells #[] 5))
    clear hL hR h0 hm
    go_enter Try.func25, Try.ntmps25
    go_wp2_with fail
    generalize w.alloc (.cells #[] 5) = w0 at *
    go_loopg [6, 7] s.size (fun gk b at_ wr => ∃ (a : Nat) (q : Option Addr) (nn c : Nat) (O : List UInt8), a + gk = s.size ∧ nn ≤ m ∧ at_ = .int .i64 a ∧ b = .slice q nn c ∧ Hid (nn = O.length) ∧ Hid (urun (L.drop a) O m = R) ∧ Hid (OwnZ w.heap.size (.slice q nn c) O wr) ∧ Hid (Below w.heap.size w wr))
    case atStart => exact ⟨0, _, 0, _, [], by omega, by omega, rfl, rfl, show _ = _ from rfl, HR0, HO00, HB00⟩
    case round =>
      obtain ⟨a, q, nn, c, O, hag, hnm, rfl, rfl, HN, HEQ, HO, HB⟩ := hrel
      generalize gk = go at *
      by_cases hlt : a < s.size
      · have f0 : (0 : Int) ≤ a := by omega
        have f1 : (a : Int) < s.size := by omega
        have hcb := byte_lt (s[a]'hlt)
        obtain ⟨k1, hk1⟩ : ∃ k, k = a + 1 := ⟨_, rfl⟩
        have e1 : IntKind.i64.wrap ((a : Int) + 1) = (k1 : Int) := by rw [IntWalk.i64_in _ (by omega)]; omega
        obtain ⟨c1, hc1⟩ : ∃ k, k = (s[a]'hlt).toNat + 1 := ⟨_, rfl⟩
        obtain ⟨p0, hp0⟩ : ∃ k, k = a + (s[a]'hlt).toNat := ⟨_, rfl⟩
        obtain ⟨p1, hp1⟩ : ∃ k, k = k1 + (s[a]'hlt).toNat := ⟨_, rfl⟩
        obtain ⟨r1, hr1⟩ : ∃ k, k = nn + (s[a]'hlt).toNat := ⟨_, rfl⟩
        obtain ⟨k2, hk2⟩ : ∃ k, k = k1 + c1 := ⟨_, rfl⟩
        obtain ⟨r2, hr2⟩ : ∃ k, k = nn + c1 := ⟨_, rfl⟩
        have e2 : IntKind.i64.wrap ((a : Int) + ((s[a]'hlt).toNat : Int)) = (p0 : Int) := by rw [IntWalk.i64_in _ (by omega)]; omega
        have e3 : IntKind.i64.wrap ((k1 : Int) + ((s[a]'hlt).toNat : Int)) = (p1 : Int) := by rw [IntWalk.i64_in _ (by omega)]; omega
        have e4 : IntKind.i64.wrap ((p1 : Int) + 1) = (k2 : Int) := by rw [IntWalk.i64_in _ (by omega)]; omega
        have e5 : IntKind.i64.wrap ((p0 : Int) + 2) = (k2 : Int) := by rw [IntWalk.i64_in _ (by omega)]; omega
        have e6 : IntKind.i64.wrap ((nn : Int) + ((s[a]'hlt).toNat : Int)) = (r1 : Int) := by rw [IntWalk.i64_in _ (by omega)]; omega
        have e7 : IntKind.i64.wrap ((r1 : Int) + 1) = (r2 : Int) := by rw [IntWalk.i64_in _ (by omega)]; omega
        by_cases hc : (s[a]'hlt).toNat < 128
        · have d0 : decide (((s[a]'hlt).toNat : Int) < 128) = true := decide_eq_true (by omega)
          have d0' : decide ((s[a]'hlt).toNat < 128) = true := decide_eq_true hc
          by_cases h1 : s.size < k2
          · have d1 : decide ((s.size : Int) < k2) = true := decide_eq_true (by omega)
            have HF : Hid (R = .error 5) := show _ = _ from by rw [← HEQ.out, HL.out]; exact st_short hlt hc (by omega)
            clear hk1 hc1 hp0 hp1 hr1 hk2 hr2
            go_wp2_with fail
            go_ret2
            exact ⟨by rw [HF.out]; rfl, HB.out⟩
          · have d1 : decide ((s.size : Int) < k2) = false := decide_eq_false (by omega)
            by_cases h2 : m < r2
            · have d2 : decide ((m : Int) < r2) = true := decide_eq_true (by omega)
              have HF : Hid (R = .error 3) := show _ = _ from by rw [← HEQ.out, HL.out]; exact st_big hlt hc (by omega) (by have := HN.out; omega)
              clear hk1 hc1 hp0 hp1 hr1 hk2 hr2
              go_wp2_with fail
              go_ret2
              exact ⟨by rw [HF.out]; rfl, HB.out⟩
            · have d2 : decide ((m : Int) < r2) = false := decide_eq_false (by omega)
              have f2 : k1 ≤ k2 := by omega
              have f3 : (k1 : Int) ≤ k2 := by omega
              have f4 : (k2 : Int) ≤ s.size := by omega
              have f5 : (0 : Int) ≤ k1 := by omega
              have HST : Hid (urun (L.drop k2) (O ++ (L.drop k1).take c1) m = R) := show _ = _ from by
                rw [← HEQ.out, HL.out, st_lit hlt hc (by omega) (by have := HN.out; omega), hk2, hk1, hc1]
              have HXE : Hid ((s.extract k1 k2).data.toList = (L.drop k1).take c1) := show _ = _ from by rw [ByteArray.data_extract, Array.toList_extract, HL.out]; show List.take (k2 - k1) _ = _; rw [show k2 - k1 = c1 by omega]
              have HXL : Hid ((s.extract k1 k2).data.toList.length = c1) := show _ = _ from by
                have hl : s.data.toList.length = s.size := rfl
                rw [HXE.out, List.length_take, List.length_drop, HL.out, hl]; omega
              have HXP : Hid (0 < (s.extract k1 k2).data.toList.length) := show _ < _ from by rw [HXL.out]; omega
              have hcc : c1 ≤ 128 := by omega
              have hk2s : k2 ≤ s.size := by omega
              have hak2 : a < k2 := by omega
              have hrc : nn + c1 ≤ m := by omega
              clear hk1 hc1 hp0 hp1 hr1 hk2 hr2
              go_wp2_with ((at_builtin; refine wpList_appZ rfl (.tmp 38) (.tmp 46) 9 rfl w.heap.size (.slice q nn c) O rfl HO.out _ rfl (s.extract k1 k2).data.toList (Src.ofString wr Try.underlying9 (s.extract k1 k2)) HXP.out (by rw [HXL.out]; have := HN.out; omega) ?_); intro v6 w6 HO6 HB6)
              have hsh := HO6.out.shape
              rw [HXE.out] at hsh HO6
              obtain ⟨q6, c6, rfl⟩ := hsh
              have HL6 : Hid ((O ++ (L.drop k1).take c1).length = nn + c1) := show _ = _ from by rw [← HXE.out, List.length_append, HXL.out, ← HN.out]
              have HW6 := Lib.hid (HB.out.trans HB6.out)
              go_wp2_with fail
              go_roundg (s.size - k2)
              case measure => omega
              case rel => exact ⟨k2, q6, _, c6, _, by omega, by rw [HL6.out]; exact hrc, by go_num, rfl, rfl, HST, HO6, HW6⟩
        · have d0 : decide (((s[a]'hlt).toNat : Int) < 128) = false := decide_eq_false (by omega)
          have d0' : decide ((s[a]'hlt).toNat < 128) = false := decide_eq_false hc
          obtain ⟨n1, hn1⟩ : ∃ k, k = (s[a]'hlt).toNat - 125 := ⟨_, rfl⟩
          have e8 : IntKind.i64.wrap (((s[a]'hlt).toNat : Int) - 125) = (n1 : Int) := by rw [IntWalk.i64_in _ (by omega)]; omega
          by_cases h1 : s.size ≤ k1
          · have d1 : decide ((s.size : Int) ≤ k1) = true := decide_eq_true (by omega)
            have HF : Hid (R = .error 5) := show _ = _ from by rw [← HEQ.out, HL.out]; exact st_short2 hlt hc (by omega)
            clear hk1 hc1 hp0 hp1 hr1 hk2 hr2 hn1
            go_wp2_with fail
            go_ret2
            exact ⟨by rw [HF.out]; rfl, HB.out⟩
          · have d1 : decide ((s.size : Int) ≤ k1) = false := decide_eq_false (by omega)
            have hs1 : a + 1 < s.size := by omega
            have hk1s : k1 < s.size := by omega
            obtain ⟨r3, hr3⟩ : ∃ k, k = nn + n1 := ⟨_, rfl⟩
            have e9 : IntKind.i64.wrap ((r1 : Int) - 125) = (r3 : Int) := by rw [IntWalk.i64_in _ (by omega)]; omega
            by_cases h2 : m < r3
            · have d2 : decide ((m : Int) < r3) = true := decide_eq_true (by omega)
              have HF : Hid (R = .error 3) := show _ = _ from by rw [← HEQ.out, HL.out]; exact st_big2 hlt hc hs1 (by have := HN.out; omega)
              clear hk1 hc1 hp0 hp1 hr1 hk2 hr2 hn1 hr3
              go_wp2_with fail
              go_ret2
              exact ⟨by rw [HF.out]; rfl, HB.out⟩
            · have d2 : decide ((m : Int) < r3) = false := decide_eq_false (by omega)
              have hrc : nn + n1 ≤ m := by omega
              clear hk2 e4 e5
              obtain ⟨k2, hk2⟩ : ∃ k, k = a + 2 := ⟨_, rfl⟩
              have e10 : IntKind.i64.wrap ((a : Int) + 2) = (k2 : Int) := by rw [IntWalk.i64_in _ (by omega)]; omega
              have f3 : (k1 : Int) < s.size := by omega
              have f5 : (0 : Int) ≤ k1 := by omega
              have HST : Hid (urun (L.drop k2) (O ++ List.replicate n1 (s[k1]'hk1s)) m = R) := show _ = _ from by
                subst hk1
                rw [← HEQ.out, HL.out, st_run hlt hc hs1 (by have := HN.out; omega), hk2, hn1]
              have hk2s : k2 ≤ s.size := by omega
              have hak2 : a < k2 := by omega
              have hnb : n1 ≤ 130 := by omega
              clear hk1 hc1 hp0 hp1 hr1 hr2 hn1 hr3 hk2
              go_wp2_with fail
              obtain ⟨x, hx⟩ : ∃ x, x = s[k1]'hk1s := ⟨_, rfl⟩
              have HX := Lib.hid hx
              rw [← hx] at HST
              clear hx
              have HO0 : Hid (OwnZ w.heap.size (.slice q nn c) (O ++ List.replicate 0 x) wr) := show OwnZ _ _ _ _ from by rw [List.replicate_zero, List.append_nil]; exact HO.out
              go_loopg [6, 9] n1 (fun gk b i wx => ∃ (i0 : Nat) (q : Option Addr) (n6 c : Nat), i0 + gk = n1 ∧ i = .int .i64 i0 ∧ b = .slice q n6 c ∧ n6 = nn + i0 ∧ Hid (OwnZ w.heap.size (.slice q n6 c) (O ++ List.replicate i0 x) wx) ∧ Hid (Below w.heap.size w wx))
              case atStart => exact ⟨0, q, nn, c, by omega, rfl, rfl, by omega, HO0, HB⟩
              case round =>
                obtain ⟨i0, q2, n6, c2, hi, rfl, rfl, hn6, HOi, HBi⟩ := hrel
                by_cases hin : i0 < n1
                · have d6 : decide ((i0 : Int) < n1) = true := decide_eq_true (by omega)
                  have HOA := Lib.hid (HOi.out.below (bw_alloc (Below.refl wr.heap.size wr) (.cells #[.int .u8 ((s[k1]'hk1s).toNat : Int)] 5)) (Nat.le_refl _))
                  have HBA := Lib.hid (bw_alloc HBi.out (.cells #[.int .u8 ((s[k1]'hk1s).toNat : Int)] 5))
                  have HXC : Hid (((s[k1]'hk1s).toNat : Int) = (x.toNat : Int)) := show _ = _ from by rw [HX.out]
                  have HRL : Hid ((O ++ List.replicate i0 x).length ≤ 1048576) := show _ ≤ _ from by rw [List.length_append, List.length_replicate, ← HN.out]; omega
                  go_wp2_with ((at_builtin; refine wpList_appZ rfl (.tmp 70) (.tmp 75) 34 rfl w.heap.size (.slice q2 n6 c2) (O ++ List.replicate i0 x) rfl HOA.out _ rfl [x] (byte_src HXC.out (heap_alloc_new wr _)) Nat.one_pos (by have := HRL.out; simp only [List.length_cons, List.length_nil]; omega) ?_); intro v6 w6 HO6 HB6)
                  have hsh := HO6.out.shape
                  rw [List.append_assoc, ← List.replicate_succ'] at hsh HO6
                  obtain ⟨q7, c7, rfl⟩ := hsh
                  have HL7 : Hid ((O ++ List.replicate (i0 + 1) x).length = nn + (i0 + 1)) := show _ = _ from by rw [List.length_append, List.length_replicate, ← HN.out]
                  have HW6 := Lib.hid (HBA.out.trans HB6.out)
                  go_wp2_with fail
                  go_roundg (gk - 1)
                  case measure => omega
                  case rel => exact ⟨i0 + 1, q7, _, c7, by omega, by go_num, rfl, HL7.out, HO6, HW6⟩
                · obtain rfl : i0 = n1 := by omega
                  have HL7 : Hid (n6 = (O ++ List.replicate i0 x).length) := show _ = _ from by rw [List.length_append, List.length_replicate, ← HN.out]; exact hn6
                  go_wp2_with fail
                  go_roundg (s.size - k2)
                  case measure => omega
                  case rel => exact ⟨k2, q2, n6, c2, _, by omega, by omega, by go_num, rfl, HL7, HST, HOi, HBi⟩
      · obtain rfl : a = s.size := by omega
        have HF : Hid (R = .ok O) := show _ = _ from by rw [← HEQ.out, HL.out]; exact st_end
        have hcv := HO.out.conv
        go_wp2_with fail
        go_ret2
        exact ⟨by rw [HF.out]; rfl, HB.out⟩
end Go.Proofs.Ytbelofikknfoaaa
