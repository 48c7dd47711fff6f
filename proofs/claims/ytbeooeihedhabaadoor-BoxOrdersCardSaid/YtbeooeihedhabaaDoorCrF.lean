/- runs.Unpack: what the call does. cavalcaderef06.Unpack: what the call does. window.Unpack's steps at a place of a text. cavalcaderef07.Unpack: what the call does. window.Unpack: what its walks share. cavalcaderef07.Unpack: what the call does. window.Unpack: what the call does. window.Unpack: the errors, and how long what it tells may be. -/
import Derived.Test.YtbeooeihedhabaaDoorCrD
import Derived.Test.YtbeooeihedhabaaDoorCrA
import Derived.Test.YtbeooeihedhabaaDoorCrB
import Derived.Deep.QuietTactic
import Derived.BigQuiet
import Derived.Outline
import Derived.Lib.SlBytesConst
import Derived.Test.YtbeooeihedhabaaDoorCrC
namespace Go.Proofs.YtbeooeihedhabaaDoor
open Go.RowKit
set_option maxHeartbeats 4000000
set_option maxRecDepth 4000
/-- what runs.Unpack tells -/
def unR (s : ByteArray) (most : Int) : Value := if most < 0 then .tuple #[.string ByteArray.empty, .int .i64 2] else unV (urun s.data.toList [] most.toNat)
theorem unpack_any (s : ByteArray) (most : Int) (w : World) (hs : s.size ≤ 140737488351232) (hm : most ≤ 1048576) :
    Calls Tryd.prog 86 #[.string s, .int .i64 most] w fun e w' => e = .returned (unR s most) ∧ Below w.heap.size w w' := by
  by_cases h0 : most < 0
  · have hd : decide (most < 0) = true := decide_eq_true h0
    rw [unR, if_pos h0]
    clear h0
    go_enter Tryd.func86, Tryd.ntmps86
    go_wp2_with fail
    go_ret2
    exact ⟨rfl, Below.refl _ _⟩
  · obtain ⟨m, rfl⟩ : ∃ m : Nat, most = m := ⟨most.toNat, by omega⟩
    rw [unR, if_neg h0, Int.toNat_natCast]
    have hmb : m ≤ 1048576 := by omega
    have hd : decide ((m : Int) < 0) = false := decide_eq_false (by omega)
    obtain ⟨L, hL⟩ : ∃ L, L = s.data.toList := ⟨_, rfl⟩
    have HL := Lib.hid hL
    obtain ⟨R, hR⟩ : ∃ R, R = urun L [] m := ⟨_, rfl⟩
    rw [← hL, ← hR]
    have HR0 : Hid (urun (L.drop 0) [] m = R) := show _ = _ from hR.symm
    clear hL hR h0 hm
    go_enter Tryd.func86, Tryd.ntmps86
    go_wp2_with fail
    go_loopg [6, 7] s.size (fun gk b at_ wr => ∃ (a : Nat) (q : Option Addr) (nn c : Nat) (O : List UInt8), a + gk = s.size ∧ nn ≤ m ∧ at_ = .int .i64 a ∧ b = .slice q nn c ∧ Hid (nn = O.length) ∧ Hid (urun (L.drop a) O m = R) ∧ Hid (OwnZ w.heap.size (.slice q nn c) O wr) ∧ Hid (Below w.heap.size w wr))
    case atStart => exact ⟨0, none, 0, 0, [], by omega, by omega, rfl, rfl, show _ = _ from rfl, HR0, show _ ∨ _ from .inl ⟨rfl, rfl, Nat.le_refl _⟩, Below.refl _ _⟩
    case round =>
      obtain ⟨a, q, nn, c, O, hag, hnm, rfl, rfl, HN, HEQ, HO, HB⟩ := hrel
      generalize gk = go at *
      by_cases hlt : a < s.size
      · have f0 : (0 : Int) ≤ a := by omega
        have f1 : (a : Int) < s.size := by omega
        have hcb := byte_lt (s[a]'hlt)
        obtain ⟨k1, hk1⟩ : ∃ k, k = a + 1 := ⟨_, rfl⟩
        obtain ⟨lf, hlf⟩ : ∃ k, k = s.size - k1 := ⟨_, rfl⟩
        obtain ⟨rm, hrm⟩ : ∃ k, k = m - nn := ⟨_, rfl⟩
        have e1 : IntKind.i64.wrap ((a : Int) + 1) = (k1 : Int) := by rw [IntWalk.i64_in _ (by omega)]; omega
        have e3 : IntKind.i64.wrap ((s.size : Int) - k1) = (lf : Int) := by rw [IntWalk.i64_in _ (by omega)]; omega
        have e4 : IntKind.i64.wrap ((m : Int) - nn) = (rm : Int) := by rw [IntWalk.i64_in _ (by omega)]; omega
        obtain ⟨c1, hc1⟩ : ∃ k, k = (s[a]'hlt).toNat + 1 := ⟨_, rfl⟩
        have e2 : IntKind.i64.wrap (((s[a]'hlt).toNat : Int) + 1) = (c1 : Int) := by rw [IntWalk.i64_in _ (by omega)]; omega
        by_cases hc : (s[a]'hlt).toNat < 128
        · have d0 : decide (127 < ((s[a]'hlt).toNat : Int)) = false := decide_eq_false (by omega)
          have d5 : decide (((s[a]'hlt).toNat : Int) ≤ 127) = true := decide_eq_true (by omega)
          by_cases h1 : lf < c1
          · have d1 : decide ((lf : Int) < c1) = true := decide_eq_true (by omega)
            have HF : Hid (R = .error 5) := show _ = _ from by rw [← HEQ.out, HL.out]; exact st_short hlt hc (by omega)
            clear hk1 hlf hrm hc1
            go_wp2_with fail
            go_ret2
            exact ⟨by rw [HF.out]; rfl, HB.out⟩
          · have d1 : decide ((lf : Int) < c1) = false := decide_eq_false (by omega)
            by_cases h2 : rm < c1
            · have d2 : decide ((rm : Int) < c1) = true := decide_eq_true (by omega)
              have HF : Hid (R = .error 3) := show _ = _ from by rw [← HEQ.out, HL.out]; exact st_big hlt hc (by omega) (by have := HN.out; omega)
              clear hk1 hlf hrm hc1
              go_wp2_with fail
              go_ret2
              exact ⟨by rw [HF.out]; rfl, HB.out⟩
            · have d2 : decide ((rm : Int) < c1) = false := decide_eq_false (by omega)
              obtain ⟨k2, hk2⟩ : ∃ k, k = k1 + c1 := ⟨_, rfl⟩
              have e5 : IntKind.i64.wrap ((k1 : Int) + c1) = (k2 : Int) := by rw [IntWalk.i64_in _ (by omega)]; omega
              have f2 : k1 ≤ k2 := by omega
              have f3 : (k1 : Int) ≤ k2 := by omega
              have f4 : (k2 : Int) ≤ s.size := by omega
              have f5 : (0 : Int) ≤ k1 := by omega
              have HST : Hid (urun (L.drop k2) (O ++ (L.drop k1).take c1) m = R) := show _ = _ from by
                rw [← HEQ.out, HL.out, st_lit hlt hc (by omega) (by have := HN.out; omega), hk2, hk1, hc1]
              have HXE : Hid ((s.extract k1 k2).data.toList = (L.drop k1).take c1) := show _ = _ from by rw [ByteArray.data_extract, Array.toList_extract, HL.out]; show List.take (k2 - k1) _ = _; rw [show k2 - k1 = c1 by omega]
              have HXL : Hid ((s.extract k1 k2).data.toList.length = c1) := show _ = _ from by
                have hl : s.data.toList.length = s.size := rfl
                rw [HXE.out, List.length_take, List.length_drop, HL.out, hl]; omega
              have HXP : Hid (0 < (s.extract k1 k2).data.toList.length) := show _ < _ from by rw [HXL.out]; omega
              have hcc : c1 ≤ 128 := by omega
              have hk2s : k2 ≤ s.size := by omega
              have hak2 : a < k2 := by omega
              have hrc : nn + c1 ≤ m := by omega
              clear hk1 hlf hrm hc1 hk2
              go_wp2_with ((at_builtin; refine wpList_appZ rfl (.tmp 45) (.tmp 51) 9 rfl w.heap.size (.slice q nn c) O rfl HO.out _ rfl (s.extract k1 k2).data.toList (Src.ofString wr Tryd.underlying9 (s.extract k1 k2)) HXP.out (by rw [HXL.out]; have := HN.out; omega) ?_); intro v6 w6 HO6 HB6)
              have hsh := HO6.out.shape
              rw [HXE.out] at hsh HO6
              obtain ⟨q6, c6, rfl⟩ := hsh
              have HL6 : Hid ((O ++ (L.drop k1).take c1).length = nn + c1) := show _ = _ from by rw [← HXE.out, List.length_append, HXL.out, ← HN.out]
              have HW6 := Lib.hid (HB.out.trans HB6.out)
              go_wp2_with fail
              go_roundg (s.size - k2)
              case measure => omega
              case rel => exact ⟨k2, q6, _, c6, _, by omega, by rw [HL6.out]; exact hrc, by go_num, rfl, rfl, HST, HO6, HW6⟩
        · have d0 : decide (127 < ((s[a]'hlt).toNat : Int)) = true := decide_eq_true (by omega)
          have d5 : decide (((s[a]'hlt).toNat : Int) ≤ 127) = false := decide_eq_false (by omega)
          obtain ⟨n1, hn1⟩ : ∃ k, k = (s[a]'hlt).toNat - 125 := ⟨_, rfl⟩
          have e6 : IntKind.i64.wrap (((s[a]'hlt).toNat : Int) - 125) = (n1 : Int) := by rw [IntWalk.i64_in _ (by omega)]; omega
          by_cases h1 : lf < 1
          · have d1 : decide ((lf : Int) < 1) = true := decide_eq_true (by omega)
            have d1' : lf = 0 := by omega
            have HF : Hid (R = .error 5) := show _ = _ from by rw [← HEQ.out, HL.out]; exact st_short2 hlt hc (by omega)
            clear hk1 hlf hrm hc1 hn1
            go_wp2_with fail
            go_ret2
            exact ⟨by rw [HF.out]; rfl, HB.out⟩
          · have d1 : decide ((lf : Int) < 1) = false := decide_eq_false (by omega)
            have hs1 : a + 1 < s.size := by omega
            have hk1s : k1 < s.size := by omega
            by_cases h2 : rm < n1
            · have d2 : decide ((rm : Int) < n1) = true := decide_eq_true (by omega)
              have HF : Hid (R = .error 3) := show _ = _ from by rw [← HEQ.out, HL.out]; exact st_big2 hlt hc hs1 (by have := HN.out; omega)
              clear hk1 hlf hrm hc1 hn1
              go_wp2_with fail
              go_ret2
              exact ⟨by rw [HF.out]; rfl, HB.out⟩
            · have d2 : decide ((rm : Int) < n1) = false := decide_eq_false (by omega)
              obtain ⟨k2, hk2⟩ : ∃ k, k = k1 + 1 := ⟨_, rfl⟩
              have e5 : IntKind.i64.wrap ((k1 : Int) + 1) = (k2 : Int) := by rw [IntWalk.i64_in _ (by omega)]; omega
              have f3 : (k1 : Int) < s.size := by omega
              have f5 : (0 : Int) ≤ k1 := by omega
              have HST : Hid (urun (L.drop k2) (O ++ List.replicate n1 (s[k1]'hk1s)) m = R) := show _ = _ from by
                subst hk1
                rw [← HEQ.out, HL.out, st_run hlt hc hs1 (by have := HN.out; omega), hk2, hn1]
              have hk2s : k2 ≤ s.size := by omega
              have hak2 : a < k2 := by omega
              have hrc : nn + n1 ≤ m := by omega
              have hnb : n1 ≤ 130 := by omega
              clear hk1 hlf hrm hc1 hn1 hk2
              go_wp2_with fail
              obtain ⟨x, hx⟩ : ∃ x, x = s[k1]'hk1s := ⟨_, rfl⟩
              have HX := Lib.hid hx
              rw [← hx] at HST
              clear hx
              have HO0 : Hid (OwnZ w.heap.size (.slice q nn c) (O ++ List.replicate 0 x) wr) := show OwnZ _ _ _ _ from by rw [List.replicate_zero, List.append_nil]; exact HO.out
              go_loopg [6, 54] n1 (fun gk b i wx => ∃ (i0 : Nat) (q : Option Addr) (n6 c : Nat), i0 + gk = n1 ∧ i = .int .i64 i0 ∧ b = .slice q n6 c ∧ n6 = nn + i0 ∧ Hid (OwnZ w.heap.size (.slice q n6 c) (O ++ List.replicate i0 x) wx) ∧ Hid (Below w.heap.size w wx))
              case atStart => exact ⟨0, q, nn, c, by omega, rfl, rfl, by omega, HO0, HB⟩
              case round =>
                obtain ⟨i0, q2, n6, c2, hi, rfl, rfl, hn6, HOi, HBi⟩ := hrel
                by_cases hin : i0 < n1
                · have d6 : decide ((i0 : Int) < n1) = true := decide_eq_true (by omega)
                  have HOA := Lib.hid (HOi.out.below (bw_alloc (Below.refl wr.heap.size wr) (.cells #[.int .u8 ((s[k1]'hk1s).toNat : Int)] 5)) (Nat.le_refl _))
                  have HBA := Lib.hid (bw_alloc HBi.out (.cells #[.int .u8 ((s[k1]'hk1s).toNat : Int)] 5))
                  have HXC : Hid (((s[k1]'hk1s).toNat : Int) = (x.toNat : Int)) := show _ = _ from by rw [HX.out]
                  have HRL : Hid ((O ++ List.replicate i0 x).length ≤ 1048576) := show _ ≤ _ from by rw [List.length_append, List.length_replicate, ← HN.out]; omega
                  go_wp2_with ((at_builtin; refine wpList_appZ rfl (.tmp 56) (.tmp 60) 48 rfl w.heap.size (.slice q2 n6 c2) (O ++ List.replicate i0 x) rfl HOA.out _ rfl [x] (byte_src HXC.out (heap_alloc_new wr _)) Nat.one_pos (by have := HRL.out; simp only [List.length_cons, List.length_nil]; omega) ?_); intro v6 w6 HO6 HB6)
                  have hsh := HO6.out.shape
                  rw [List.append_assoc, ← List.replicate_succ'] at hsh HO6
                  obtain ⟨q7, c7, rfl⟩ := hsh
                  have HL7 : Hid ((O ++ List.replicate (i0 + 1) x).length = nn + (i0 + 1)) := show _ = _ from by rw [List.length_append, List.length_replicate, ← HN.out]
                  have HW6 := Lib.hid (HBA.out.trans HB6.out)
                  go_wp2_with fail
                  go_roundg (gk - 1)
                  case measure => omega
                  case rel => exact ⟨i0 + 1, q7, _, c7, by omega, by go_num, rfl, HL7.out, HO6, HW6⟩
                · obtain rfl : i0 = n1 := by omega
                  have HL7 : Hid (n6 = (O ++ List.replicate i0 x).length) := show _ = _ from by rw [List.length_append, List.length_replicate, ← HN.out]; exact hn6
                  go_wp2_with fail
                  go_roundg (s.size - k2)
                  case measure => omega
                  case rel => exact ⟨k2, q2, n6, c2, _, by omega, by omega, by go_num, rfl, HL7, HST, HOi, HBi⟩
      · obtain rfl : a = s.size := by omega
        have HF : Hid (R = .ok O) := show _ = _ from by rw [← HEQ.out, HL.out]; exact st_end
        have hcv := HO.out.conv
        go_wp2_with fail
        go_ret2
        exact ⟨by rw [HF.out]; rfl, HB.out⟩
open Go.RowKit
set_option maxHeartbeats 4000000
set_option maxRecDepth 4000
theorem runpack6_any (s : ByteArray) (most : Int) (w : World) (hs : s.size ≤ 140737488351232) (hm : most ≤ 1048576) :
    Calls Tryd.prog 73 #[.string s, .int .i64 most] w fun e w' => e = .returned (unR s most) ∧ Below w.heap.size w w' := by
  by_cases h0 : most < 0
  · have hd : decide (most < 0) = true := decide_eq_true h0
    rw [unR, if_pos h0]
    clear h0
    go_enter Tryd.func73, Tryd.ntmps73
    go_wp2_with fail
    go_ret2
    exact ⟨rfl, Below.refl _ _⟩
  · obtain ⟨m, rfl⟩ : ∃ m : Nat, most = m := ⟨most.toNat, by omega⟩
    rw [unR, if_neg h0, Int.toNat_natCast]
    have hmb : m ≤ 1048576 := by omega
    have hd : decide ((m : Int) < 0) = false := decide_eq_false (by omega)
    obtain ⟨L, hL⟩ : ∃ L, L = s.data.toList := ⟨_, rfl⟩
    have HL := Lib.hid hL
    obtain ⟨R, hR⟩ : ∃ R, R = urun L [] m := ⟨_, rfl⟩
    rw [← hL, ← hR]
    have HR0 : Hid (urun (L.drop 0) [] m = R) := show _ = _ from hR.symm
    have HO00 : Hid (OwnZ w.heap.size (.slice (some ⟨w.heap.size, 0, none⟩) 0 0) [] (w.alloc (.cells #[] 5))) := show _ ∨ _ from .inr ⟨w.heap.size, 0, [], (0, 0), rfl, Nat.le_refl _, heap_alloc_new w _, rfl, by decide, .inl rfl⟩
    have HB00 := Lib.hid (bw_alloc (Below.refl w.heap.size w) (.cells #[] 5))
    clear hL hR h0 hm
    go_enter Tryd.func73, Tryd.ntmps73
    go_wp2_with fail
    generalize w.alloc (.cells #[] 5) = w0 at *
    go_loopg [6, 7] s.size (fun gk b at_ wr => ∃ (a : Nat) (q : Option Addr) (nn c : Nat) (O : List UInt8), a + gk = s.size ∧ nn ≤ m ∧ at_ = .int .i64 a ∧ b = .slice q nn c ∧ Hid (nn = O.length) ∧ Hid (urun (L.drop a) O m = R) ∧ Hid (OwnZ w.heap.size (.slice q nn c) O wr) ∧ Hid (Below w.heap.size w wr))
    case atStart => exact ⟨0, _, 0, _, [], by omega, by omega, rfl, rfl, show _ = _ from rfl, HR0, HO00, HB00⟩
    case round =>
      obtain ⟨a, q, nn, c, O, hag, hnm, rfl, rfl, HN, HEQ, HO, HB⟩ := hrel
      generalize gk = go at *
      by_cases hlt : a < s.size
      · have f0 : (0 : Int) ≤ a := by omega
        have f1 : (a : Int) < s.size := by omega
        have hcb := byte_lt (s[a]'hlt)
        obtain ⟨k1, hk1⟩ : ∃ k, k = a + 1 := ⟨_, rfl⟩
        have e1 : IntKind.i64.wrap ((a : Int) + 1) = (k1 : Int) := by rw [IntWalk.i64_in _ (by omega)]; omega
        obtain ⟨c1, hc1⟩ : ∃ k, k = (s[a]'hlt).toNat + 1 := ⟨_, rfl⟩
        obtain ⟨p0, hp0⟩ : ∃ k, k = a + (s[a]'hlt).toNat := ⟨_, rfl⟩
        obtain ⟨p1, hp1⟩ : ∃ k, k = k1 + (s[a]'hlt).toNat := ⟨_, rfl⟩
        obtain ⟨r1, hr1⟩ : ∃ k, k = nn + (s[a]'hlt).toNat := ⟨_, rfl⟩
        obtain ⟨k2, hk2⟩ : ∃ k, k = k1 + c1 := ⟨_, rfl⟩
        obtain ⟨r2, hr2⟩ : ∃ k, k = nn + c1 := ⟨_, rfl⟩
        have e2 : IntKind.i64.wrap ((a : Int) + ((s[a]'hlt).toNat : Int)) = (p0 : Int) := by rw [IntWalk.i64_in _ (by omega)]; omega
        have e3 : IntKind.i64.wrap ((k1 : Int) + ((s[a]'hlt).toNat : Int)) = (p1 : Int) := by rw [IntWalk.i64_in _ (by omega)]; omega
        have e4 : IntKind.i64.wrap ((p1 : Int) + 1) = (k2 : Int) := by rw [IntWalk.i64_in _ (by omega)]; omega
        have e5 : IntKind.i64.wrap ((p0 : Int) + 2) = (k2 : Int) := by rw [IntWalk.i64_in _ (by omega)]; omega
        have e6 : IntKind.i64.wrap ((nn : Int) + ((s[a]'hlt).toNat : Int)) = (r1 : Int) := by rw [IntWalk.i64_in _ (by omega)]; omega
        have e7 : IntKind.i64.wrap ((r1 : Int) + 1) = (r2 : Int) := by rw [IntWalk.i64_in _ (by omega)]; omega
        by_cases hc : (s[a]'hlt).toNat < 128
        · have d0 : decide (((s[a]'hlt).toNat : Int) < 128) = true := decide_eq_true (by omega)
          have d0' : decide ((s[a]'hlt).toNat < 128) = true := decide_eq_true hc
          by_cases h1 : s.size < k2
          · have d1 : decide ((s.size : Int) < k2) = true := decide_eq_true (by omega)
            have HF : Hid (R = .error 5) := show _ = _ from by rw [← HEQ.out, HL.out]; exact st_short hlt hc (by omega)
            clear hk1 hc1 hp0 hp1 hr1 hk2 hr2
            go_wp2_with fail
            go_ret2
            exact ⟨by rw [HF.out]; rfl, HB.out⟩
          · have d1 : decide ((s.size : Int) < k2) = false := decide_eq_false (by omega)
            by_cases h2 : m < r2
            · have d2 : decide ((m : Int) < r2) = true := decide_eq_true (by omega)
              have HF : Hid (R = .error 3) := show _ = _ from by rw [← HEQ.out, HL.out]; exact st_big hlt hc (by omega) (by have := HN.out; omega)
              clear hk1 hc1 hp0 hp1 hr1 hk2 hr2
              go_wp2_with fail
              go_ret2
              exact ⟨by rw [HF.out]; rfl, HB.out⟩
            · have d2 : decide ((m : Int) < r2) = false := decide_eq_false (by omega)
              have f2 : k1 ≤ k2 := by omega
              have f3 : (k1 : Int) ≤ k2 := by omega
              have f4 : (k2 : Int) ≤ s.size := by omega
              have f5 : (0 : Int) ≤ k1 := by omega
              have HST : Hid (urun (L.drop k2) (O ++ (L.drop k1).take c1) m = R) := show _ = _ from by
                rw [← HEQ.out, HL.out, st_lit hlt hc (by omega) (by have := HN.out; omega), hk2, hk1, hc1]
              have HXE : Hid ((s.extract k1 k2).data.toList = (L.drop k1).take c1) := show _ = _ from by rw [ByteArray.data_extract, Array.toList_extract, HL.out]; show List.take (k2 - k1) _ = _; rw [show k2 - k1 = c1 by omega]
              have HXL : Hid ((s.extract k1 k2).data.toList.length = c1) := show _ = _ from by
                have hl : s.data.toList.length = s.size := rfl
                rw [HXE.out, List.length_take, List.length_drop, HL.out, hl]; omega
              have HXP : Hid (0 < (s.extract k1 k2).data.toList.length) := show _ < _ from by rw [HXL.out]; omega
              have hcc : c1 ≤ 128 := by omega
              have hk2s : k2 ≤ s.size := by omega
              have hak2 : a < k2 := by omega
              have hrc : nn + c1 ≤ m := by omega
              clear hk1 hc1 hp0 hp1 hr1 hk2 hr2
              go_wp2_with ((at_builtin; refine wpList_appZ rfl (.tmp 38) (.tmp 46) 9 rfl w.heap.size (.slice q nn c) O rfl HO.out _ rfl (s.extract k1 k2).data.toList (Src.ofString wr Tryd.underlying9 (s.extract k1 k2)) HXP.out (by rw [HXL.out]; have := HN.out; omega) ?_); intro v6 w6 HO6 HB6)
              have hsh := HO6.out.shape
              rw [HXE.out] at hsh HO6
              obtain ⟨q6, c6, rfl⟩ := hsh
              have HL6 : Hid ((O ++ (L.drop k1).take c1).length = nn + c1) := show _ = _ from by rw [← HXE.out, List.length_append, HXL.out, ← HN.out]
              have HW6 := Lib.hid (HB.out.trans HB6.out)
              go_wp2_with fail
              go_roundg (s.size - k2)
              case measure => omega
              case rel => exact ⟨k2, q6, _, c6, _, by omega, by rw [HL6.out]; exact hrc, by go_num, rfl, rfl, HST, HO6, HW6⟩
        · have d0 : decide (((s[a]'hlt).toNat : Int) < 128) = false := decide_eq_false (by omega)
          have d0' : decide ((s[a]'hlt).toNat < 128) = false := decide_eq_false hc
          obtain ⟨n1, hn1⟩ : ∃ k, k = (s[a]'hlt).toNat - 125 := ⟨_, rfl⟩
          have e8 : IntKind.i64.wrap (((s[a]'hlt).toNat : Int) - 125) = (n1 : Int) := by rw [IntWalk.i64_in _ (by omega)]; omega
          by_cases h1 : s.size ≤ k1
          · have d1 : decide ((s.size : Int) ≤ k1) = true := decide_eq_true (by omega)
            have HF : Hid (R = .error 5) := show _ = _ from by rw [← HEQ.out, HL.out]; exact st_short2 hlt hc (by omega)
            clear hk1 hc1 hp0 hp1 hr1 hk2 hr2 hn1
            go_wp2_with fail
            go_ret2
            exact ⟨by rw [HF.out]; rfl, HB.out⟩
          · have d1 : decide ((s.size : Int) ≤ k1) = false := decide_eq_false (by omega)
            have hs1 : a + 1 < s.size := by omega
            have hk1s : k1 < s.size := by omega
            obtain ⟨r3, hr3⟩ : ∃ k, k = nn + n1 := ⟨_, rfl⟩
            have e9 : IntKind.i64.wrap ((r1 : Int) - 125) = (r3 : Int) := by rw [IntWalk.i64_in _ (by omega)]; omega
            by_cases h2 : m < r3
            · have d2 : decide ((m : Int) < r3) = true := decide_eq_true (by omega)
              have HF : Hid (R = .error 3) := show _ = _ from by rw [← HEQ.out, HL.out]; exact st_big2 hlt hc hs1 (by have := HN.out; omega)
              clear hk1 hc1 hp0 hp1 hr1 hk2 hr2 hn1 hr3
              go_wp2_with fail
              go_ret2
              exact ⟨by rw [HF.out]; rfl, HB.out⟩
            · have d2 : decide ((m : Int) < r3) = false := decide_eq_false (by omega)
              have hrc : nn + n1 ≤ m := by omega
              clear hk2 e4 e5
              obtain ⟨k2, hk2⟩ : ∃ k, k = a + 2 := ⟨_, rfl⟩
              have e10 : IntKind.i64.wrap ((a : Int) + 2) = (k2 : Int) := by rw [IntWalk.i64_in _ (by omega)]; omega
              have f3 : (k1 : Int) < s.size := by omega
              have f5 : (0 : Int) ≤ k1 := by omega
              have HST : Hid (urun (L.drop k2) (O ++ List.replicate n1 (s[k1]'hk1s)) m = R) := show _ = _ from by
                subst hk1
                rw [← HEQ.out, HL.out, st_run hlt hc hs1 (by have := HN.out; omega), hk2, hn1]
              have hk2s : k2 ≤ s.size := by omega
              have hak2 : a < k2 := by omega
              have hnb : n1 ≤ 130 := by omega
              clear hk1 hc1 hp0 hp1 hr1 hr2 hn1 hr3 hk2
              go_wp2_with fail
              obtain ⟨x, hx⟩ : ∃ x, x = s[k1]'hk1s := ⟨_, rfl⟩
              have HX := Lib.hid hx
              rw [← hx] at HST
              clear hx
              have HO0 : Hid (OwnZ w.heap.size (.slice q nn c) (O ++ List.replicate 0 x) wr) := show OwnZ _ _ _ _ from by rw [List.replicate_zero, List.append_nil]; exact HO.out
              go_loopg [6, 9] n1 (fun gk b i wx => ∃ (i0 : Nat) (q : Option Addr) (n6 c : Nat), i0 + gk = n1 ∧ i = .int .i64 i0 ∧ b = .slice q n6 c ∧ n6 = nn + i0 ∧ Hid (OwnZ w.heap.size (.slice q n6 c) (O ++ List.replicate i0 x) wx) ∧ Hid (Below w.heap.size w wx))
              case atStart => exact ⟨0, q, nn, c, by omega, rfl, rfl, by omega, HO0, HB⟩
              case round =>
                obtain ⟨i0, q2, n6, c2, hi, rfl, rfl, hn6, HOi, HBi⟩ := hrel
                by_cases hin : i0 < n1
                · have d6 : decide ((i0 : Int) < n1) = true := decide_eq_true (by omega)
                  have HOA := Lib.hid (HOi.out.below (bw_alloc (Below.refl wr.heap.size wr) (.cells #[.int .u8 ((s[k1]'hk1s).toNat : Int)] 5)) (Nat.le_refl _))
                  have HBA := Lib.hid (bw_alloc HBi.out (.cells #[.int .u8 ((s[k1]'hk1s).toNat : Int)] 5))
                  have HXC : Hid (((s[k1]'hk1s).toNat : Int) = (x.toNat : Int)) := show _ = _ from by rw [HX.out]
                  have HRL : Hid ((O ++ List.replicate i0 x).length ≤ 1048576) := show _ ≤ _ from by rw [List.length_append, List.length_replicate, ← HN.out]; omega
                  go_wp2_with ((at_builtin; refine wpList_appZ rfl (.tmp 70) (.tmp 75) 48 rfl w.heap.size (.slice q2 n6 c2) (O ++ List.replicate i0 x) rfl HOA.out _ rfl [x] (byte_src HXC.out (heap_alloc_new wr _)) Nat.one_pos (by have := HRL.out; simp only [List.length_cons, List.length_nil]; omega) ?_); intro v6 w6 HO6 HB6)
                  have hsh := HO6.out.shape
                  rw [List.append_assoc, ← List.replicate_succ'] at hsh HO6
                  obtain ⟨q7, c7, rfl⟩ := hsh
                  have HL7 : Hid ((O ++ List.replicate (i0 + 1) x).length = nn + (i0 + 1)) := show _ = _ from by rw [List.length_append, List.length_replicate, ← HN.out]
                  have HW6 := Lib.hid (HBA.out.trans HB6.out)
                  go_wp2_with fail
                  go_roundg (gk - 1)
                  case measure => omega
                  case rel => exact ⟨i0 + 1, q7, _, c7, by omega, by go_num, rfl, HL7.out, HO6, HW6⟩
                · obtain rfl : i0 = n1 := by omega
                  have HL7 : Hid (n6 = (O ++ List.replicate i0 x).length) := show _ = _ from by rw [List.length_append, List.length_replicate, ← HN.out]; exact hn6
                  go_wp2_with fail
                  go_roundg (s.size - k2)
                  case measure => omega
                  case rel => exact ⟨k2, q2, n6, c2, _, by omega, by omega, by go_num, rfl, HL7, HST, HOi, HBi⟩
      · obtain rfl : a = s.size := by omega
        have HF : Hid (R = .ok O) := show _ = _ from by rw [← HEQ.out, HL.out]; exact st_end
        have hcv := HO.out.conv
        go_wp2_with fail
        go_ret2
        exact ⟨by rw [HF.out]; rfl, HB.out⟩
open Go.RowKit
section
variable {s : ByteArray} {a : Nat} {K : List UInt8} {m : Nat}
theorem sw_end : uwin (s.data.toList.drop s.size) K m = .ok K := by
  have hl : s.data.toList.length = s.size := rfl
  rw [← hl, List.drop_length, uwin_nil]
theorem sw_255 (h : a < s.size) (h5 : (s[a]'h).toNat = 255) : uwin (s.data.toList.drop a) K m = .error 6 := by
  rw [cut_at h, uwin_255 h5]
theorem sw_short (h : a < s.size) (hc : (s[a]'h).toNat < 128) (h1 : s.size < a + 1 + ((s[a]'h).toNat + 1)) : uwin (s.data.toList.drop a) K m = .error 5 := by
  rw [cut_at h, uwin_lit hc, if_pos (by rw [left_at]; omega)]
theorem sw_big (h : a < s.size) (hc : (s[a]'h).toNat < 128) (h1 : a + 1 + ((s[a]'h).toNat + 1) ≤ s.size) (h2 : m < K.length - 68 + ((s[a]'h).toNat + 1)) : uwin (s.data.toList.drop a) K m = .error 3 := by
  rw [cut_at h, uwin_lit hc, if_neg (by rw [left_at]; omega), if_pos h2]
theorem sw_lit (h : a < s.size) (hc : (s[a]'h).toNat < 128) (h1 : a + 1 + ((s[a]'h).toNat + 1) ≤ s.size) (h2 : K.length - 68 + ((s[a]'h).toNat + 1) ≤ m) : uwin (s.data.toList.drop a) K m = uwin (s.data.toList.drop (a + 1 + ((s[a]'h).toNat + 1))) (K ++ (s.data.toList.drop (a + 1)).take ((s[a]'h).toNat + 1)) m := by
  rw [cut_at h, uwin_lit hc, if_neg (by rw [left_at]; omega), if_neg (by omega), List.drop_drop]
theorem sw_short2 (h : a < s.size) (hc : ¬ (s[a]'h).toNat < 128) (h5 : (s[a]'h).toNat ≠ 255) (h1 : s.size < a + 3) : uwin (s.data.toList.drop a) K m = .error 5 := by
  rw [cut_at h, uwin_short hc h5 (by rw [left_at]; omega)]
theorem sw_match (h : a < s.size) (hc : ¬ (s[a]'h).toNat < 128) (h5 : (s[a]'h).toNat ≠ 255) (h1 : a + 1 < s.size) (h2 : a + 2 < s.size) : uwin (s.data.toList.drop a) K m = if 32768 ≤ (s[a + 1]'h1).toNat * 256 + (s[a + 2]'h2).toNat ∨ K.length < (s[a + 1]'h1).toNat * 256 + (s[a + 2]'h2).toNat + 1 then .error 6 else if m < K.length - 68 + ((s[a]'h).toNat - 124) then .error 3 else uwin (s.data.toList.drop (a + 3)) (cpy ((s[a]'h).toNat - 124) ((s[a + 1]'h1).toNat * 256 + (s[a + 2]'h2).toNat) K) m := by
  rw [cut_at h, cut_at h1, cut_at h2, uwin_match hc h5]
end
open Go.RowKit
set_option maxHeartbeats 4000000
set_option maxRecDepth 4000
/-- what is told of what is known behind -/
def unWR (r : Except Int (List UInt8)) : Value := unV (match r with | .ok K => .ok (K.drop 68) | .error e => .error e)
/-- what window.Unpack tells -/
def unW (s : ByteArray) (most : Int) : Value :=
  if most < 0 then .tuple #[.string ByteArray.empty, .int .i64 2]
  else unWR (uwin s.data.toList statL most.toNat)
theorem rwunpack7_neg (s : ByteArray) (most : Int) (w : World) (h0 : most < 0) :
    Calls Tryd.prog 72 #[.string s, .int .i64 most] w fun e w' => e = .returned (unW s most) ∧ Below w.heap.size w w' := by
  have hd : decide (most < 0) = true := decide_eq_true h0
  rw [unW, if_pos h0]
  clear h0
  go_enter Tryd.func72, Tryd.ntmps72
  go_wp2_with fail
  go_ret2
  exact ⟨rfl, Below.refl _ _⟩
theorem wunpack_neg (s : ByteArray) (most : Int) (w : World) (h0 : most < 0) :
    Calls Tryd.prog 87 #[.string s, .int .i64 most] w fun e w' => e = .returned (unW s most) ∧ Below w.heap.size w w' := by
  have hd : decide (most < 0) = true := decide_eq_true h0
  rw [unW, if_pos h0]
  clear h0
  go_enter Tryd.func87, Tryd.ntmps87
  go_wp2_with fail
  go_ret2
  exact ⟨rfl, Below.refl _ _⟩
open Go.RowKit
set_option maxHeartbeats 1000000
theorem cpy_snoc : ∀ (n d : Nat) (k : List UInt8), cpy (n + 1) d k = cpy n d k ++ [(cpy n d k).getD ((cpy n d k).length - d - 1) 0]
  | 0, _, _ => rfl
  | n + 1, d, k => by
    show cpy (n + 1) d (k ++ [k.getD (k.length - d - 1) 0]) = _
    rw [cpy_snoc n d (k ++ [k.getD (k.length - d - 1) 0])]
    rfl
theorem OwnZ.cell {B : Nat} {v : Value} {xs : List UInt8} {w : World} (h : OwnZ B v xs w) (h0 : 0 < xs.length) : ∃ g c, v = .slice (some ⟨g, 0, none⟩) xs.length c ∧ ∀ i, i < xs.length → w.cell? ⟨g, i, none⟩ = some (.int .u8 ((xs.getD i 0).toNat : Int)) := by
  rcases h with ⟨-, rfl, -⟩ | ⟨g, cap, rest, fr, rfl, hg, hh, -⟩
  · simp at h0
  · refine ⟨g, cap, rfl, fun i hi => ?_⟩
    rw [cell_of_row w g _ _ _ _ hh, List.getElem?_toArray, List.getElem?_append_left (by rw [u8s_length]; exact hi), u8s_get xs i hi]
    simp [List.getD, List.getElem?_eq_getElem hi]
/-- the end of a row as a string -/
theorem OwnZ.tail {B g n c c2 k m : Nat} {xs : List UInt8} {w : World} (h : OwnZ B (.slice (some ⟨g, 0, none⟩) n c) xs w) (hn : n = xs.length) (hm : m + k = n) : (convert 48 9 (.slice (some ⟨g, k, none⟩) m c2)).run Tryd.prog w = .ok (.string (bstr (xs.drop k))) w := by
  rcases h with ⟨h, -, -⟩ | ⟨g, cap, rest, fr, h, hg, hh, -⟩
  · cases h
  · cases h
    refine conv_row (xs.drop k) Tryd.underlying48 Tryd.underlying5 Tryd.underlying9 (by rw [List.length_drop]; omega) fun i hi => ?_
    rw [cell_of_row w _ _ _ _ _ hh, List.getElem?_toArray, List.getElem?_append_left (by rw [u8s_length]; omega)]
    simp [u8s, List.getElem?_drop]
theorem OwnZ.cap {B g n c : Nat} {xs : List UInt8} {w : World} (h : OwnZ B (.slice (some ⟨g, 0, none⟩) n c) xs w) : n ≤ c := by
  rcases h with ⟨h, -, -⟩ | ⟨g, cap, rest, fr, h, hg, hh, hc, -⟩
  · cases h
  · injection h with h1 h2 h3
    omega
/-- .. where nothing is left -/
theorem OwnZ.tail0 {B g n c k : Nat} {xs : List UInt8} {w : World} (h : OwnZ B (.slice (some ⟨g, 0, none⟩) n c) xs w) (hn : n = xs.length) (hk : c = k) : (convert 48 9 (.slice (some ⟨g, 0, none⟩) (n - k) 0)).run Tryd.prog w = .ok (.string (bstr (xs.drop k))) w := by
  have hc := h.cap
  rw [show n - k = 0 by omega, List.drop_eq_nil_of_le (by omega)]
  exact conv_row [] Tryd.underlying48 Tryd.underlying5 Tryd.underlying9 rfl fun i hi => by omega
/-- the rest of s at a place, where the way back is short -/
theorem sw_form {s : ByteArray} {a m d : Nat} {K : List UInt8} (h : a < s.size) (hc : ¬ (s[a]'h).toNat < 128) (h5 : (s[a]'h).toNat ≠ 255) (h1 : a + 1 < s.size) (h2 : a + 2 < s.size) (hd : d = (s[a + 1]'h1).toNat * 256 + (s[a + 2]'h2).toNat) (hb : 32768 ≤ d ∨ K.length < d + 1) : uwin (s.data.toList.drop a) K m = .error 6 := by
  rw [sw_match h hc h5 h1 h2, ← hd, if_pos hb]
theorem sw_big2 {s : ByteArray} {a m d : Nat} {K : List UInt8} (h : a < s.size) (hc : ¬ (s[a]'h).toNat < 128) (h5 : (s[a]'h).toNat ≠ 255) (h1 : a + 1 < s.size) (h2 : a + 2 < s.size) (hd : d = (s[a + 1]'h1).toNat * 256 + (s[a + 2]'h2).toNat) (hb : d < 32768) (hk : d + 1 ≤ K.length) (hm : m < K.length - 68 + ((s[a]'h).toNat - 124)) : uwin (s.data.toList.drop a) K m = .error 3 := by
  rw [sw_match h hc h5 h1 h2, ← hd, if_neg (by omega), if_pos hm]
theorem sw_cpy {s : ByteArray} {a m d : Nat} {K : List UInt8} (h : a < s.size) (hc : ¬ (s[a]'h).toNat < 128) (h5 : (s[a]'h).toNat ≠ 255) (h1 : a + 1 < s.size) (h2 : a + 2 < s.size) (hd : d = (s[a + 1]'h1).toNat * 256 + (s[a + 2]'h2).toNat) (hb : d < 32768) (hk : d + 1 ≤ K.length) (hm : K.length - 68 + ((s[a]'h).toNat - 124) ≤ m) : uwin (s.data.toList.drop a) K m = uwin (s.data.toList.drop (a + 3)) (cpy ((s[a]'h).toNat - 124) d K) m := by
  rw [sw_match h hc h5 h1 h2, ← hd, if_neg (by omega), if_neg (by omega)]
open Go.RowKit
set_option maxHeartbeats 4000000
set_option maxRecDepth 4000
theorem rwunpack7_any (s : ByteArray) (most : Int) (w : World) (hs : s.size ≤ 140737488351232) (hm : most ≤ 1048576) :
    Calls Tryd.prog 72 #[.string s, .int .i64 most] w fun e w' => e = .returned (unW s most) ∧ Below w.heap.size w w' := by
  by_cases h0 : most < 0
  · exact rwunpack7_neg s most w h0
  · obtain ⟨m, rfl⟩ : ∃ m : Nat, most = m := ⟨most.toNat, by omega⟩
    rw [unW, if_neg h0, Int.toNat_natCast]
    have hmb : m ≤ 1048576 := by omega
    have hd : decide ((m : Int) < 0) = false := decide_eq_false (by omega)
    obtain ⟨S, hS⟩ : ∃ S, S = bstr statL := ⟨_, rfl⟩
    have hS68 : S.size = 68 := by rw [hS]; rfl
    have HSL : Hid (S.data.toList = statL) := show _ = _ from by rw [hS]; rfl
    have HSt : Hid (∀ w, Calls Tryd.prog 77 #[] w fun e w' => e = .returned (.string S) ∧ Below w.heap.size w w') := show ∀ w, _ from fun w => by rw [hS]; exact static_any w
    obtain ⟨L, hL⟩ : ∃ L, L = s.data.toList := ⟨_, rfl⟩
    have HL := Lib.hid hL
    obtain ⟨R, hR⟩ : ∃ R, R = uwin L statL m := ⟨_, rfl⟩
    rw [← hL, ← hR]
    have HR0 : Hid (uwin (L.drop 0) S.data.toList m = R) := show _ = _ from by rw [HSL.out, hR]; rfl
    have HS68 : Hid (S.data.toList.length = 68) := show _ = _ from hS68
    have hsm : S.size ≤ maxLen := by rw [hS68]; decide
    clear hL hR h0 hm hS hS68
    go_enter Tryd.func72, Tryd.ntmps72
    go_wp2_with fail
    refine (HSt.out _).mono ?_
    rintro e w1 ⟨rfl, hb1⟩
    obtain ⟨v0, W0, hcv, hO0, hB0⟩ := conv_own w1 S hsm
    have HO0 := Lib.hid ((hO0.mono hb1.size : OwnB w.heap.size v0 S.data.toList W0))
    have HB0 := Lib.hid (bw_call hb1 hB0)
    obtain ⟨q0, n0, c0, rfl⟩ : ∃ q n c, v0 = .slice q n c := OwnZ.sh (B := w.heap.size) (.inr HO0.out)
    have HN0 : Hid (n0 = 68) := show _ = _ from by
      obtain ⟨g, cap, rest, fr, hv, -⟩ := HO0.out
      injection hv with h1 h2 h3
      rw [h2]; exact HS68.out
    have hn0 : 68 ≤ n0 := by rw [HN0.out]; omega
    have hn1 : n0 ≤ 68 := by rw [HN0.out]; omega
    clear hO0 hB0 hb1 hsm
    go_wp2_with fail
    go_loopg [6, 8] s.size (fun gk b at_ wr => ∃ (a : Nat) (q : Option Addr) (nn c : Nat) (K : List UInt8), a + gk = s.size ∧ 68 ≤ nn ∧ nn ≤ m + 68 ∧ at_ = .int .i64 a ∧ b = .slice q nn c ∧ Hid (nn = K.length) ∧ Hid (uwin (L.drop a) K m = R) ∧ Hid (OwnZ w.heap.size (.slice q nn c) K wr) ∧ Hid (Below w.heap.size w wr))
    case atStart => exact ⟨0, _, _, _, _, by omega, by omega, by rw [HN0.out]; omega, rfl, rfl, show _ = _ from by rw [HN0.out, HS68.out], HR0, show _ ∨ _ from .inr HO0.out, HB0⟩
    case round =>
      obtain ⟨a, q, nn, c, K, hag, h68, hnm, rfl, rfl, HN, HEQ, HO, HB⟩ := hrel
      generalize gk = go at *
      obtain ⟨g, cc, hgc⟩ : ∃ g cc, q = some ⟨g, 0, none⟩ ∧ c = cc := by
        obtain ⟨g, c1, h1, -⟩ := HO.out.cell (by have := HN.out; omega)
        injection h1 with h1 h2 h3
        exact ⟨g, c, h1, rfl⟩
      obtain ⟨rfl, rfl⟩ := hgc
      by_cases hlt : a < s.size
      · have f0 : (0 : Int) ≤ a := by omega
        have f1 : (a : Int) < s.size := by omega
        have hcb := byte_lt (s[a]'hlt)
        by_cases h255 : (s[a]'hlt).toNat = 255
        · have d0 : (((s[a]'hlt).toNat : Int) == 255) = true := by rw [beq_iff_eq]; omega
          have HF : Hid (R = .error 6) := show _ = _ from by rw [← HEQ.out, HL.out]; exact sw_255 hlt h255
          clear h255
          go_wp2_with fail
          go_ret2
          exact ⟨by rw [HF.out]; rfl, HB.out⟩
        · have d0 : (((s[a]'hlt).toNat : Int) == 255) = false := by rw [beq_eq_false_iff_ne]; omega
          obtain ⟨k1, hk1⟩ : ∃ k, k = a + 1 := ⟨_, rfl⟩
          have e1 : IntKind.i64.wrap ((a : Int) + 1) = (k1 : Int) := by rw [IntWalk.i64_in _ (by omega)]; omega
          obtain ⟨r0, hr0⟩ : ∃ k, k = nn - n0 := ⟨_, rfl⟩
          obtain ⟨r1, hr1⟩ : ∃ k, k = r0 + (s[a]'hlt).toNat := ⟨_, rfl⟩
          have e6 : IntKind.i64.wrap ((nn : Int) - n0) = (r0 : Int) := by rw [IntWalk.i64_in _ (by omega)]; omega
          have e7 : IntKind.i64.wrap ((r0 : Int) + ((s[a]'hlt).toNat : Int)) = (r1 : Int) := by rw [IntWalk.i64_in _ (by omega)]; omega
          by_cases hc : (s[a]'hlt).toNat < 128
          · have d1 : decide (((s[a]'hlt).toNat : Int) < 128) = true := decide_eq_true (by omega)
            have d1' : decide ((s[a]'hlt).toNat < 128) = true := decide_eq_true hc
            obtain ⟨c1, hc1⟩ : ∃ k, k = (s[a]'hlt).toNat + 1 := ⟨_, rfl⟩
            obtain ⟨p0, hp0⟩ : ∃ k, k = a + (s[a]'hlt).toNat := ⟨_, rfl⟩
            obtain ⟨k2, hk2⟩ : ∃ k, k = k1 + c1 := ⟨_, rfl⟩
            obtain ⟨r2, hr2⟩ : ∃ k, k = r0 + c1 := ⟨_, rfl⟩
            have e2 : IntKind.i64.wrap ((a : Int) + ((s[a]'hlt).toNat : Int)) = (p0 : Int) := by rw [IntWalk.i64_in _ (by omega)]; omega
            have e5 : IntKind.i64.wrap ((p0 : Int) + 2) = (k2 : Int) := by rw [IntWalk.i64_in _ (by omega)]; omega
            have e8 : IntKind.i64.wrap ((r1 : Int) + 1) = (r2 : Int) := by rw [IntWalk.i64_in _ (by omega)]; omega
            by_cases h1 : s.size < k2
            · have d2 : decide ((s.size : Int) < k2) = true := decide_eq_true (by omega)
              have HF : Hid (R = .error 5) := show _ = _ from by rw [← HEQ.out, HL.out]; exact sw_short hlt hc (by omega)
              clear hk1 hc1 hp0 hr0 hr1 hk2 hr2 h255
              go_wp2_with fail
              go_ret2
              exact ⟨by rw [HF.out]; rfl, HB.out⟩
            · have d2 : decide ((s.size : Int) < k2) = false := decide_eq_false (by omega)
              by_cases h2 : m < r2
              · have d3 : decide ((m : Int) < r2) = true := decide_eq_true (by omega)
                have HF : Hid (R = .error 3) := show _ = _ from by rw [← HEQ.out, HL.out]; exact sw_big hlt hc (by omega) (by have := HN.out; omega)
                clear hk1 hc1 hp0 hr0 hr1 hk2 hr2 h255
                go_wp2_with fail
                go_ret2
                exact ⟨by rw [HF.out]; rfl, HB.out⟩
              · have d3 : decide ((m : Int) < r2) = false := decide_eq_false (by omega)
                have f2 : k1 ≤ k2 := by omega
                have f3 : (k1 : Int) ≤ k2 := by omega
                have f4 : (k2 : Int) ≤ s.size := by omega
                have f5 : (0 : Int) ≤ k1 := by omega
                have HST : Hid (uwin (L.drop k2) (K ++ (L.drop k1).take c1) m = R) := show _ = _ from by
                  rw [← HEQ.out, HL.out, sw_lit hlt hc (by omega) (by have := HN.out; omega), hk2, hk1, hc1]
                have HXE : Hid ((s.extract k1 k2).data.toList = (L.drop k1).take c1) := show _ = _ from by rw [ByteArray.data_extract, Array.toList_extract, HL.out]; show List.take (k2 - k1) _ = _; rw [show k2 - k1 = c1 by omega]
                have HXL : Hid ((s.extract k1 k2).data.toList.length = c1) := show _ = _ from by
                  have hl : s.data.toList.length = s.size := rfl
                  rw [HXE.out, List.length_take, List.length_drop, HL.out, hl]; omega
                have HXP : Hid (0 < (s.extract k1 k2).data.toList.length) := show _ < _ from by rw [HXL.out]; omega
                have hcc : c1 ≤ 128 := by omega
                have hk2s : k2 ≤ s.size := by omega
                have hak2 : a < k2 := by omega
                have hrc : nn + c1 ≤ m + 68 := by omega
                clear hk1 hc1 hp0 hr0 hr1 hk2 hr2 h255
                go_wp2_with ((at_builtin; refine wpList_appZ rfl (.tmp 46) (.tmp 54) 9 rfl w.heap.size (.slice (some ⟨g, 0, none⟩) nn c) K rfl HO.out _ rfl (s.extract k1 k2).data.toList (Src.ofString wr Tryd.underlying9 (s.extract k1 k2)) HXP.out (by rw [HXL.out]; have := HN.out; omega) ?_); intro v6 w6 HO6 HB6)
                have hsh := HO6.out.shape
                rw [HXE.out] at hsh HO6
                obtain ⟨q6, c6, rfl⟩ := hsh
                have HL6 : Hid ((K ++ (L.drop k1).take c1).length = nn + c1) := show _ = _ from by rw [← HXE.out, List.length_append, HXL.out, ← HN.out]
                have HW6 := Lib.hid (HB.out.trans HB6.out)
                go_wp2_with fail
                go_roundg (s.size - k2)
                case measure => omega
                case rel => exact ⟨k2, q6, _, c6, _, by omega, by rw [HL6.out]; omega, by rw [HL6.out]; exact hrc, by go_num, rfl, rfl, HST, HO6, HW6⟩
          · have d1 : decide (((s[a]'hlt).toNat : Int) < 128) = false := decide_eq_false (by omega)
            have d1' : decide ((s[a]'hlt).toNat < 128) = false := decide_eq_false hc
            obtain ⟨k3, hk3⟩ : ∃ k, k = a + 3 := ⟨_, rfl⟩
            have e2 : IntKind.i64.wrap ((a : Int) + 3) = (k3 : Int) := by rw [IntWalk.i64_in _ (by omega)]; omega
            by_cases h1 : s.size < k3
            · have d2 : decide ((s.size : Int) < k3) = true := decide_eq_true (by omega)
              have HF : Hid (R = .error 5) := show _ = _ from by rw [← HEQ.out, HL.out]; exact sw_short2 hlt hc h255 (by omega)
              clear hk1 hr0 hr1 hk3 h255
              go_wp2_with fail
              go_ret2
              exact ⟨by rw [HF.out]; rfl, HB.out⟩
            · have d2 : decide ((s.size : Int) < k3) = false := decide_eq_false (by omega)
              have hs1 : a + 1 < s.size := by omega
              have hs2 : a + 2 < s.size := by omega
              have hk1s : k1 < s.size := by omega
              obtain ⟨k2, hk2⟩ : ∃ k, k = a + 2 := ⟨_, rfl⟩
              have e3 : IntKind.i64.wrap ((a : Int) + 2) = (k2 : Int) := by rw [IntWalk.i64_in _ (by omega)]; omega
              have hk2s : k2 < s.size := by omega
              have f2 : (k1 : Int) < s.size := by omega
              have f3 : (k2 : Int) < s.size := by omega
              have f4 : (0 : Int) ≤ k1 := by omega
              have f5 : (0 : Int) ≤ k2 := by omega
              have hx := byte_lt (s[k1]'hk1s)
              have hy := byte_lt (s[k2]'hk2s)
              obtain ⟨d, hd⟩ : ∃ d, d = (s[k1]'hk1s).toNat * 256 + (s[k2]'hk2s).toNat := ⟨_, rfl⟩
              obtain ⟨x, hxx⟩ : ∃ x, x = (s[k1]'hk1s).toNat * 256 := ⟨_, rfl⟩
              have e4 : IntKind.i64.wrap (((s[k1]'hk1s).toNat : Int) * 256) = (x : Int) := by rw [IntWalk.i64_in _ (by omega)]; omega
              have e5 : IntKind.i64.wrap ((x : Int) + ((s[k2]'hk2s).toNat : Int)) = (d : Int) := by rw [IntWalk.i64_in _ (by omega)]; omega
              have hdb : d < 65536 := by omega
              have HD : Hid (d = (s[a + 1]'hs1).toNat * 256 + (s[a + 2]'hs2).toNat) := show _ = _ from by subst hk1 hk2; exact hd
              clear hd hxx
              have HHC : Hid (¬ (s[a]'hlt).toNat < 128) := hc
              by_cases hdd : 32768 ≤ d
              · have d3 : decide (32768 ≤ (d : Int)) = true := decide_eq_true (by omega)
                have d3' : decide (32768 ≤ d) = true := decide_eq_true hdd
                have HF : Hid (R = .error 6) := show _ = _ from by rw [← HEQ.out, HL.out]; exact sw_form hlt hc h255 hs1 hs2 HD.out (.inl hdd)
                clear hk1 hr0 hr1 hk2 hk3 h255 HD
                go_wp2_with fail
                go_quiet (fail)
                have HB2 := Lib.hid (bw_drewN HB.out nq)
                have HO2 : Hid (OwnZ w.heap.size (.slice (some ⟨g, 0, none⟩) nn c) K (wr.drewN nq)) := show OwnZ _ _ _ _ from HO.out
                generalize wr.drewN nq = w2 at *
                go_wp2_with fail
                go_ret2
                exact ⟨by rw [HF.out]; rfl, HB2.out⟩
              · have d3 : decide (32768 ≤ (d : Int)) = false := decide_eq_false (by omega)
                have d3' : decide (32768 ≤ d) = false := decide_eq_false hdd
                obtain ⟨D, hD⟩ : ∃ k, k = d + 1 := ⟨_, rfl⟩
                have e8 : IntKind.i64.wrap ((d : Int) + 1) = (D : Int) := by rw [IntWalk.i64_in _ (by omega)]; omega
                by_cases hdk : nn < D
                · have d4 : decide ((nn : Int) < D) = true := decide_eq_true (by omega)
                  have d4' : decide (nn < D) = true := decide_eq_true hdk
                  have HF : Hid (R = .error 6) := show _ = _ from by rw [← HEQ.out, HL.out]; exact sw_form hlt hc h255 hs1 hs2 HD.out (.inr (by have := HN.out; omega))
                  clear hk1 hr0 hr1 hk2 hk3 h255 hD
                  go_wp2_with fail
                  go_quiet (fail)
                  have HB2 := Lib.hid (bw_drewN HB.out nq)
                  have HO2 : Hid (OwnZ w.heap.size (.slice (some ⟨g, 0, none⟩) nn c) K (wr.drewN nq)) := show OwnZ _ _ _ _ from HO.out
                  generalize wr.drewN nq = w2 at *
                  go_wp2_with fail
                  go_ret2
                  exact ⟨by rw [HF.out]; rfl, HB2.out⟩
                · have d4 : decide ((nn : Int) < D) = false := decide_eq_false (by omega)
                  have d4' : decide (nn < D) = false := decide_eq_false hdk
                  obtain ⟨n1, hn1⟩ : ∃ k, k = (s[a]'hlt).toNat - 124 := ⟨_, rfl⟩
                  have e9 : IntKind.i64.wrap (((s[a]'hlt).toNat : Int) - 124) = (n1 : Int) := by rw [IntWalk.i64_in _ (by omega)]; omega
                  obtain ⟨r3, hr3⟩ : ∃ k, k = r0 + n1 := ⟨_, rfl⟩
                  have e10 : IntKind.i64.wrap ((r1 : Int) - 124) = (r3 : Int) := by rw [IntWalk.i64_in _ (by omega)]; omega
                  by_cases h2 : m < r3
                  · have d5 : decide ((m : Int) < r3) = true := decide_eq_true (by omega)
                    have HF : Hid (R = .error 3) := show _ = _ from by rw [← HEQ.out, HL.out]; exact sw_big2 hlt hc h255 hs1 hs2 HD.out (by omega) (by have := HN.out; omega) (by have := HN.out; omega)
                    clear hn1 hr3 hD
                    clear hk1 hr0 hr1 hk2 hk3 h255 d4'
                    go_wp2_with fail
                    go_quiet (fail)
                    have HB2 := Lib.hid (bw_drewN HB.out nq)
                    have HO2 : Hid (OwnZ w.heap.size (.slice (some ⟨g, 0, none⟩) nn c) K (wr.drewN nq)) := show OwnZ _ _ _ _ from HO.out
                    generalize wr.drewN nq = w2 at *
                    go_wp2_with fail
                    go_ret2
                    exact ⟨by rw [HF.out]; rfl, HB2.out⟩
                  · have d5 : decide ((m : Int) < r3) = false := decide_eq_false (by omega)
                    have HST : Hid (uwin (L.drop k3) (cpy n1 d K) m = R) := show _ = _ from by
                      rw [← HEQ.out, HL.out, sw_cpy hlt hc h255 hs1 hs2 HD.out (by omega) (by have := HN.out; omega) (by have := HN.out; omega), hk3, hn1]
                    have hnb : n1 ≤ 130 := by omega
                    have hnp : 4 ≤ n1 := by omega
                    have hrc : nn + n1 ≤ m + 68 := by omega
                    have hdn : d < nn := by omega
                    have hk3s : k3 ≤ s.size := by omega
                    have hak3 : a < k3 := by omega
                    clear hn1 hr3 hD
                    clear hk1 hr0 hr1 hk2 hk3 h255 d4'
                    go_wp2_with fail
                    go_quiet (fail)
                    have HB2 := Lib.hid (bw_drewN HB.out nq)
                    have HO2 : Hid (OwnZ w.heap.size (.slice (some ⟨g, 0, none⟩) nn c) K (wr.drewN nq)) := show OwnZ _ _ _ _ from HO.out
                    generalize wr.drewN nq = w2 at *
                    go_wp2_with fail
                    have HO0 : Hid (OwnZ w.heap.size (.slice (some ⟨g, 0, none⟩) nn c) (cpy 0 d K) w2) := show OwnZ _ _ _ _ from HO2.out
                    have HN9 : Hid (K.length = nn) := show _ = _ from HN.out.symm
                    have hnb2 : nn ≤ 1048576 + 68 := by omega
                    go_loopg [6, 11] n1 (fun gk b i wx => ∃ (i0 : Nat) (q : Option Addr) (n6 c : Nat), i0 + gk = n1 ∧ i = .int .i64 i0 ∧ b = .slice q n6 c ∧ n6 = nn + i0 ∧ Hid (OwnZ w.heap.size (.slice q n6 c) (cpy i0 d K) wx) ∧ Hid (Below w.heap.size w wx))
                    case atStart => exact ⟨0, _, nn, c, by omega, rfl, rfl, by omega, HO0, HB2⟩
                    case round =>
                      obtain ⟨i0, q2, n6, c2, hi, rfl, rfl, hn6, HOi, HBi⟩ := hrel
                      by_cases hin : i0 < n1
                      · have d6 : decide ((i0 : Int) < n1) = true := decide_eq_true (by omega)
                        have HLi : Hid ((cpy i0 d K).length = n6) := show _ = _ from by rw [cpy_length, HN9.out, hn6]
                        obtain ⟨g2, c3, hv, hcl⟩ := HOi.out.cell (by rw [HLi.out]; omega)
                        obtain ⟨rfl, -, rfl⟩ : q2 = some ⟨g2, 0, none⟩ ∧ True ∧ c3 = c2 := by injection hv with h1 h2 h3; exact ⟨h1, trivial, h3.symm⟩
                        obtain ⟨z1, hz1⟩ : ∃ k, k = n6 - d := ⟨_, rfl⟩
                        obtain ⟨z2, hz2⟩ : ∃ k, k = z1 - 1 := ⟨_, rfl⟩
                        have e11 : IntKind.i64.wrap ((n6 : Int) - d) = (z1 : Int) := by rw [IntWalk.i64_in _ (by omega)]; omega
                        have e12 : IntKind.i64.wrap ((z1 : Int) - 1) = (z2 : Int) := by rw [IntWalk.i64_in _ (by omega)]; omega
                        have hcl2 := hcl z2 (by rw [HLi.out]; omega)
                        obtain ⟨x, hx⟩ : ∃ x, x = (cpy i0 d K).getD z2 0 := ⟨_, rfl⟩
                        rw [← hx] at hcl2
                        have HSN : Hid (cpy i0 d K ++ [x] = cpy (i0 + 1) d K) := show _ = _ from by
                          rw [cpy_snoc, hx, HLi.out, show n6 - d - 1 = z2 by omega]
                        have fz1 : (0 : Int) ≤ z2 := by omega
                        have fz2 : (z2 : Int) < n6 := by omega
                        have HOA := Lib.hid (HOi.out.below (bw_alloc (Below.refl wr.heap.size wr) (.cells #[.int .u8 (x.toNat : Int)] 5)) (Nat.le_refl _))
                        have HBA := Lib.hid (bw_alloc HBi.out (.cells #[.int .u8 (x.toNat : Int)] 5))
                        have HN6 := Lib.hid hn6
                        have hn61 : n6 ≤ 1048576 + 200 := by omega
                        clear hx hz1 hz2 hn6 hv hcl
                        go_wp2_with ((at_builtin; refine wpList_appZ rfl (.tmp 101) (.tmp 110) 48 rfl w.heap.size (.slice (some ⟨g2, 0, none⟩) n6 c3) (cpy i0 d K) rfl HOA.out _ rfl [x] (byte_src rfl (heap_alloc_new wr _)) Nat.one_pos (by have := HLi.out; simp only [List.length_cons, List.length_nil]; omega) ?_); intro v6 w6 HO6 HB6)
                        have hsh := HO6.out.shape
                        rw [HSN.out] at hsh HO6
                        obtain ⟨q7, c7, rfl⟩ := hsh
                        have HL7 : Hid ((cpy (i0 + 1) d K).length = nn + (i0 + 1)) := show _ = _ from by rw [cpy_length, HN9.out]
                        have HW6 := Lib.hid (HBA.out.trans HB6.out)
                        go_wp2_with fail
                        go_roundg (gk - 1)
                        case measure => omega
                        case rel => exact ⟨i0 + 1, q7, _, c7, by omega, by go_num, rfl, HL7.out, HO6, HW6⟩
                      · obtain rfl : i0 = n1 := by omega
                        have HL7 : Hid (n6 = (cpy i0 d K).length) := show _ = _ from by rw [cpy_length, HN9.out]; exact hn6
                        have HN6 := Lib.hid hn6
                        have hn61 : n6 ≤ m + 68 := by omega
                        have hn62 : 68 ≤ n6 := by omega
                        have d6 : decide ((i0 : Int) < i0) = false := decide_eq_false (by omega)
                        clear hn6
                        go_wp2_with fail
                        go_roundg (s.size - k3)
                        case measure => omega
                        case rel => exact ⟨k3, q2, n6, c2, _, by omega, by omega, by omega, by go_num, rfl, HL7, HST, HOi, HBi⟩
      · obtain rfl : a = s.size := by omega
        have HF : Hid (R = .ok K) := show _ = _ from by rw [← HEQ.out, HL.out]; exact sw_end
        have d0 : decide ((s.size : Int) < s.size) = false := decide_eq_false (by omega)
        have hK68 : bstr (K.drop n0) = bstr (K.drop 68) := by rw [HN0.out]
        have HK68 := Lib.hid hK68
        clear hK68
        by_cases hcn : c = n0
        · have hcv := HO.out.tail0 HN.out hcn
          subst hcn
          go_wp2_with fail
          go_ret2
          exact ⟨by rw [HF.out, HK68.out]; rfl, HB.out⟩
        · have hcv := HO.out.tail (c2 := c - n0) (k := n0) (m := nn - n0) HN.out (by omega)
          go_wp2_with fail
          go_ret2
          exact ⟨by rw [HF.out, HK68.out]; rfl, HB.out⟩
open Go.RowKit
set_option maxHeartbeats 4000000
set_option maxRecDepth 4000
theorem wunpack_any (s : ByteArray) (most : Int) (w : World) (hs : s.size ≤ 140737488351232) (hm : most ≤ 1048576) :
    Calls Tryd.prog 87 #[.string s, .int .i64 most] w fun e w' => e = .returned (unW s most) ∧ Below w.heap.size w w' := by
  by_cases h0 : most < 0
  · exact wunpack_neg s most w h0
  · obtain ⟨m, rfl⟩ : ∃ m : Nat, most = m := ⟨most.toNat, by omega⟩
    rw [unW, if_neg h0, Int.toNat_natCast]
    have hmb : m ≤ 1048576 := by omega
    have hd : decide ((m : Int) < 0) = false := decide_eq_false (by omega)
    obtain ⟨L, hL⟩ : ∃ L, L = s.data.toList := ⟨_, rfl⟩
    have HL := Lib.hid hL
    obtain ⟨R, hR⟩ : ∃ R, R = uwin L statL m := ⟨_, rfl⟩
    rw [← hL, ← hR]
    have HR0 : Hid (uwin (L.drop 0) statL m = R) := show _ = _ from hR.symm
    have hcid := fun (w : World) (C : Array Value) (n c : Nat) => Lib.run_convert_bytes_const (P := Tryd.prog) w 48 5 C n c Tryd.underlying48 Tryd.underlying5
    have HO0 : Hid (OwnZ w.heap.size (.slice (some ⟨w.heap.size, 0, none⟩) 68 68) statL (w.alloc (.cells (u8s statL).toArray 5 (68, 69)))) := show _ ∨ _ from .inr ⟨w.heap.size, 68, [], (68, 69), rfl, Nat.le_refl _, by rw [List.append_nil]; exact heap_alloc_new w _, rfl, by decide, .inr (Nat.le_refl _)⟩
    have HB0 := Lib.hid (bw_alloc (Below.refl w.heap.size w) (.cells (u8s statL).toArray 5 (68, 69)))
    clear hL hR h0 hm
    go_enter Tryd.func87, Tryd.ntmps87
    go_wp2_with fail
    clear hcid
    go_loopg [6, 7] s.size (fun gk b at_ wr => ∃ (a : Nat) (q : Option Addr) (nn c : Nat) (K : List UInt8), a + gk = s.size ∧ 68 ≤ nn ∧ nn ≤ m + 68 ∧ at_ = .int .i64 a ∧ b = .slice q nn c ∧ Hid (nn = K.length) ∧ Hid (uwin (L.drop a) K m = R) ∧ Hid (OwnZ w.heap.size (.slice q nn c) K wr) ∧ Hid (Below w.heap.size w wr))
    case atStart => exact ⟨0, _, _, _, statL, by omega, by omega, by omega, rfl, rfl, show _ = _ from rfl, HR0, HO0, HB0⟩
    case round =>
      obtain ⟨a, q, nn, c, K, hag, h68, hnm, rfl, rfl, HN, HEQ, HO, HB⟩ := hrel
      generalize gk = go at *
      obtain ⟨g, cc, hgc⟩ : ∃ g cc, q = some ⟨g, 0, none⟩ ∧ c = cc := by
        obtain ⟨g, c1, h1, -⟩ := HO.out.cell (by have := HN.out; omega)
        injection h1 with h1 h2 h3
        exact ⟨g, c, h1, rfl⟩
      obtain ⟨rfl, rfl⟩ := hgc
      by_cases hlt : a < s.size
      · have f0 : (0 : Int) ≤ a := by omega
        have f1 : (a : Int) < s.size := by omega
        have hcb := byte_lt (s[a]'hlt)
        obtain ⟨k1, hk1⟩ : ∃ k, k = a + 1 := ⟨_, rfl⟩
        have e1 : IntKind.i64.wrap ((a : Int) + 1) = (k1 : Int) := by rw [IntWalk.i64_in _ (by omega)]; omega
        obtain ⟨lf, hlf⟩ : ∃ k, k = s.size - k1 := ⟨_, rfl⟩
        have e3 : IntKind.i64.wrap ((s.size : Int) - k1) = (lf : Int) := by rw [IntWalk.i64_in _ (by omega)]; omega
        obtain ⟨r0, hr0⟩ : ∃ k, k = nn - 68 := ⟨_, rfl⟩
        have e4 : IntKind.i64.wrap ((nn : Int) - 68) = (r0 : Int) := by rw [IntWalk.i64_in _ (by omega)]; omega
        obtain ⟨rm, hrm⟩ : ∃ k, k = m - r0 := ⟨_, rfl⟩
        have e5 : IntKind.i64.wrap ((m : Int) - r0) = (rm : Int) := by rw [IntWalk.i64_in _ (by omega)]; omega
        obtain ⟨c1, hc1⟩ : ∃ k, k = (s[a]'hlt).toNat + 1 := ⟨_, rfl⟩
        have e2 : IntKind.i64.wrap (((s[a]'hlt).toNat : Int) + 1) = (c1 : Int) := by rw [IntWalk.i64_in _ (by omega)]; omega
        by_cases hc : (s[a]'hlt).toNat < 128
        · have d0 : decide (127 < ((s[a]'hlt).toNat : Int)) = false := decide_eq_false (by omega)
          have d5 : decide (((s[a]'hlt).toNat : Int) ≤ 127) = true := decide_eq_true (by omega)
          have d7 : (((s[a]'hlt).toNat : Int) == 255) = false := by rw [beq_eq_false_iff_ne]; omega
          by_cases h1 : lf < c1
          · have d1 : decide ((lf : Int) < c1) = true := decide_eq_true (by omega)
            have HF : Hid (R = .error 5) := show _ = _ from by rw [← HEQ.out, HL.out]; exact sw_short hlt hc (by omega)
            clear hk1 hlf hr0 hrm hc1
            go_wp2_with fail
            go_ret2
            exact ⟨by rw [HF.out]; rfl, HB.out⟩
          · have d1 : decide ((lf : Int) < c1) = false := decide_eq_false (by omega)
            by_cases h2 : rm < c1
            · have d2 : decide ((rm : Int) < c1) = true := decide_eq_true (by omega)
              have HF : Hid (R = .error 3) := show _ = _ from by rw [← HEQ.out, HL.out]; exact sw_big hlt hc (by omega) (by have := HN.out; omega)
              clear hk1 hlf hr0 hrm hc1
              go_wp2_with fail
              go_ret2
              exact ⟨by rw [HF.out]; rfl, HB.out⟩
            · have d2 : decide ((rm : Int) < c1) = false := decide_eq_false (by omega)
              obtain ⟨k2, hk2⟩ : ∃ k, k = k1 + c1 := ⟨_, rfl⟩
              have e6 : IntKind.i64.wrap ((k1 : Int) + c1) = (k2 : Int) := by rw [IntWalk.i64_in _ (by omega)]; omega
              have f2 : k1 ≤ k2 := by omega
              have f3 : (k1 : Int) ≤ k2 := by omega
              have f4 : (k2 : Int) ≤ s.size := by omega
              have f5 : (0 : Int) ≤ k1 := by omega
              have HST : Hid (uwin (L.drop k2) (K ++ (L.drop k1).take c1) m = R) := show _ = _ from by
                rw [← HEQ.out, HL.out, sw_lit hlt hc (by omega) (by have := HN.out; omega), hk2, hk1, hc1]
              have HXE : Hid ((s.extract k1 k2).data.toList = (L.drop k1).take c1) := show _ = _ from by rw [ByteArray.data_extract, Array.toList_extract, HL.out]; show List.take (k2 - k1) _ = _; rw [show k2 - k1 = c1 by omega]
              have HXL : Hid ((s.extract k1 k2).data.toList.length = c1) := show _ = _ from by
                have hl : s.data.toList.length = s.size := rfl
                rw [HXE.out, List.length_take, List.length_drop, HL.out, hl]; omega
              have HXP : Hid (0 < (s.extract k1 k2).data.toList.length) := show _ < _ from by rw [HXL.out]; omega
              have hcc : c1 ≤ 128 := by omega
              have hk2s : k2 ≤ s.size := by omega
              have hak2 : a < k2 := by omega
              have hrc : nn + c1 ≤ m + 68 := by omega
              clear hk1 hlf hr0 hrm hc1 hk2
              go_wp2_with ((at_builtin; refine wpList_appZ rfl (.tmp 76) (.tmp 82) 9 rfl w.heap.size (.slice (some ⟨g, 0, none⟩) nn c) K rfl HO.out _ rfl (s.extract k1 k2).data.toList (Src.ofString wr Tryd.underlying9 (s.extract k1 k2)) HXP.out (by rw [HXL.out]; have := HN.out; omega) ?_); intro v6 w6 HO6 HB6)
              have hsh := HO6.out.shape
              rw [HXE.out] at hsh HO6
              obtain ⟨q6, c6, rfl⟩ := hsh
              have HL6 : Hid ((K ++ (L.drop k1).take c1).length = nn + c1) := show _ = _ from by rw [← HXE.out, List.length_append, HXL.out, ← HN.out]
              have HW6 := Lib.hid (HB.out.trans HB6.out)
              go_wp2_with fail
              refine wp_loop_rounds 1 ?_
              rw [rounds_succ]
              go_wp2_with fail
              go_roundg (s.size - k2)
              case measure => omega
              case rel => exact ⟨k2, q6, _, c6, _, by omega, by rw [HL6.out]; omega, by rw [HL6.out]; exact hrc, by go_num, rfl, rfl, HST, HO6, HW6⟩
        · have d0 : decide (127 < ((s[a]'hlt).toNat : Int)) = true := decide_eq_true (by omega)
          have d5 : decide (((s[a]'hlt).toNat : Int) ≤ 127) = false := decide_eq_false (by omega)
          obtain ⟨n1, hn1⟩ : ∃ k, k = (s[a]'hlt).toNat - 124 := ⟨_, rfl⟩
          have e9 : IntKind.i64.wrap (((s[a]'hlt).toNat : Int) - 124) = (n1 : Int) := by rw [IntWalk.i64_in _ (by omega)]; omega
          by_cases h255 : (s[a]'hlt).toNat = 255
          · have d7 : (((s[a]'hlt).toNat : Int) == 255) = true := by rw [beq_iff_eq]; omega
            have HF : Hid (R = .error 6) := show _ = _ from by rw [← HEQ.out, HL.out]; exact sw_255 hlt h255
            clear hk1 hlf hr0 hrm hc1 h255 hn1
            go_wp2_with fail
            go_ret2
            exact ⟨by rw [HF.out]; rfl, HB.out⟩
          · have d7 : (((s[a]'hlt).toNat : Int) == 255) = false := by rw [beq_eq_false_iff_ne]; omega
            by_cases h1 : lf < 2
            · have d1 : decide ((lf : Int) < 2) = true := decide_eq_true (by omega)
              have HF : Hid (R = .error 5) := show _ = _ from by rw [← HEQ.out, HL.out]; exact sw_short2 hlt hc h255 (by omega)
              clear hk1 hlf hr0 hrm hc1 h255 hn1
              go_wp2_with fail
              go_ret2
              exact ⟨by rw [HF.out]; rfl, HB.out⟩
            · have d1 : decide ((lf : Int) < 2) = false := decide_eq_false (by omega)
              have hs1 : a + 1 < s.size := by omega
              have hs2 : a + 2 < s.size := by omega
              have hk1s : k1 < s.size := by omega
              obtain ⟨k2, hk2⟩ : ∃ k, k = k1 + 1 := ⟨_, rfl⟩
              have e6 : IntKind.i64.wrap ((k1 : Int) + 1) = (k2 : Int) := by rw [IntWalk.i64_in _ (by omega)]; omega
              have hk2s : k2 < s.size := by omega
              obtain ⟨k3, hk3⟩ : ∃ k, k = k1 + 2 := ⟨_, rfl⟩
              have e7 : IntKind.i64.wrap ((k1 : Int) + 2) = (k3 : Int) := by rw [IntWalk.i64_in _ (by omega)]; omega
              have f2 : (k1 : Int) < s.size := by omega
              have f3 : (k2 : Int) < s.size := by omega
              have f4 : (0 : Int) ≤ k1 := by omega
              have f5 : (0 : Int) ≤ k2 := by omega
              have hx := byte_lt (s[k1]'hk1s)
              have hy := byte_lt (s[k2]'hk2s)
              obtain ⟨d, hd⟩ : ∃ d, d = (s[k1]'hk1s).toNat * 256 + (s[k2]'hk2s).toNat := ⟨_, rfl⟩
              obtain ⟨D, hD⟩ : ∃ k, k = d + 1 := ⟨_, rfl⟩
              have hdb : d < 65536 := by omega
              have HD : Hid (d = (s[a + 1]'hs1).toNat * 256 + (s[a + 2]'hs2).toNat) := show _ = _ from by subst hk1 hk2; exact hd
              have HDE : Hid (((s[k1]'hk1s).toNat : Int) * 256 + ((s[k2]'hk2s).toNat : Int) + 1 = (D : Int)) := show _ = _ from by omega
              clear hd
              by_cases hdd : 32768 ≤ d
              · have d3 : decide (32768 < (D : Int)) = true := decide_eq_true (by omega)
                have d3' : decide (32768 < D) = true := decide_eq_true (by omega)
                have HF : Hid (R = .error 6) := show _ = _ from by rw [← HEQ.out, HL.out]; exact sw_form hlt hc h255 hs1 hs2 HD.out (.inl hdd)
                clear hk1 hlf hr0 hrm hc1 hn1 hk2 hk3 h255 hD
                go_wp2_with fail
                go_quiet (fail)
                rw [HDE.out]
                have HB2 := Lib.hid (bw_drewN HB.out nq)
                have HO2 : Hid (OwnZ w.heap.size (.slice (some ⟨g, 0, none⟩) nn c) K (wr.drewN nq)) := show OwnZ _ _ _ _ from HO.out
                generalize wr.drewN nq = w2 at *
                go_wp2_with fail
                go_ret2
                exact ⟨by rw [HF.out]; rfl, HB2.out⟩
              · have d3 : decide (32768 < (D : Int)) = false := decide_eq_false (by omega)
                have d3' : decide (32768 < D) = false := decide_eq_false (by omega)
                by_cases hdk : nn < D
                · have d4 : decide ((nn : Int) < D) = true := decide_eq_true (by omega)
                  have d4' : decide (nn < D) = true := decide_eq_true hdk
                  have HF : Hid (R = .error 6) := show _ = _ from by rw [← HEQ.out, HL.out]; exact sw_form hlt hc h255 hs1 hs2 HD.out (.inr (by have := HN.out; omega))
                  clear hk1 hlf hr0 hrm hc1 hn1 hk2 hk3 h255 hD
                  go_wp2_with fail
                  go_quiet (fail)
                  rw [HDE.out]
                  have HB2 := Lib.hid (bw_drewN HB.out nq)
                  have HO2 : Hid (OwnZ w.heap.size (.slice (some ⟨g, 0, none⟩) nn c) K (wr.drewN nq)) := show OwnZ _ _ _ _ from HO.out
                  generalize wr.drewN nq = w2 at *
                  go_wp2_with fail
                  go_ret2
                  exact ⟨by rw [HF.out]; rfl, HB2.out⟩
                · have d4 : decide ((nn : Int) < D) = false := decide_eq_false (by omega)
                  have d4' : decide (nn < D) = false := decide_eq_false hdk
                  by_cases h2 : rm < n1
                  · have d6 : decide ((rm : Int) < n1) = true := decide_eq_true (by omega)
                    have HF : Hid (R = .error 3) := show _ = _ from by rw [← HEQ.out, HL.out]; exact sw_big2 hlt hc h255 hs1 hs2 HD.out (by omega) (by have := HN.out; omega) (by have := HN.out; omega)
                    clear hk1 hlf hr0 hrm hc1 hn1 hk2 hk3 h255 hD
                    go_wp2_with fail
                    go_quiet (fail)
                    rw [HDE.out]
                    have HB2 := Lib.hid (bw_drewN HB.out nq)
                    have HO2 : Hid (OwnZ w.heap.size (.slice (some ⟨g, 0, none⟩) nn c) K (wr.drewN nq)) := show OwnZ _ _ _ _ from HO.out
                    generalize wr.drewN nq = w2 at *
                    go_wp2_with fail
                    go_ret2
                    exact ⟨by rw [HF.out]; rfl, HB2.out⟩
                  · have d6 : decide ((rm : Int) < n1) = false := decide_eq_false (by omega)
                    have d8 : ((D : Int) == 0) = false := by rw [beq_eq_false_iff_ne]; omega
                    have d9 : decide ((0 : Int) < D) = true := decide_eq_true (by omega)
                    have d9' : decide (0 < D) = true := decide_eq_true (by omega)
                    have d9'' : 0 < D := by omega
                    have HST : Hid (uwin (L.drop k3) (cpy n1 d K) m = R) := show _ = _ from by
                      rw [← HEQ.out, HL.out, sw_cpy hlt hc h255 hs1 hs2 HD.out (by omega) (by have := HN.out; omega) (by have := HN.out; omega), hk3, hk1, hn1]
                    have hnb : n1 ≤ 130 := by omega
                    have hnp : 4 ≤ n1 := by omega
                    have hrc : nn + n1 ≤ m + 68 := by omega
                    have hdn : d < nn := by omega
                    have hD1 : D ≤ d + 1 := by omega
                    have hD2 : d + 1 ≤ D := by omega
                    have hk3s : k3 ≤ s.size := by omega
                    have hak3 : a < k3 := by omega
                    clear hk1 hlf hr0 hrm hc1 hn1 hk2 hk3 h255 hD
                    go_wp2_with fail
                    go_quiet (fail)
                    rw [HDE.out]
                    have HB2 := Lib.hid (bw_drewN HB.out nq)
                    have HO2 : Hid (OwnZ w.heap.size (.slice (some ⟨g, 0, none⟩) nn c) K (wr.drewN nq)) := show OwnZ _ _ _ _ from HO.out
                    generalize wr.drewN nq = w2 at *
                    go_wp2_with fail
                    have HO0 : Hid (OwnZ w.heap.size (.slice (some ⟨g, 0, none⟩) nn c) (cpy 0 d K) w2) := show OwnZ _ _ _ _ from HO2.out
                    have HN9 : Hid (K.length = nn) := show _ = _ from HN.out.symm
                    have hnb2 : nn ≤ 1048576 + 68 := by omega
                    go_loopg [6, 12] n1 (fun gk b i wx => ∃ (i0 : Nat) (q : Option Addr) (n6 c : Nat), i0 + gk = n1 ∧ i = .int .i64 i0 ∧ b = .slice q n6 c ∧ n6 = nn + i0 ∧ Hid (OwnZ w.heap.size (.slice q n6 c) (cpy i0 d K) wx) ∧ Hid (Below w.heap.size w wx))
                    case atStart => exact ⟨0, _, nn, c, by omega, rfl, rfl, by omega, HO0, HB2⟩
                    case round =>
                      obtain ⟨i0, q2, n6, c2, hi, rfl, rfl, hn6, HOi, HBi⟩ := hrel
                      by_cases hin : i0 < n1
                      · have dd : decide ((i0 : Int) < n1) = true := decide_eq_true (by omega)
                        have HLi : Hid ((cpy i0 d K).length = n6) := show _ = _ from by rw [cpy_length, HN9.out, hn6]
                        obtain ⟨g2, c3, hv, hcl⟩ := HOi.out.cell (by rw [HLi.out]; omega)
                        obtain ⟨rfl, -, rfl⟩ : q2 = some ⟨g2, 0, none⟩ ∧ True ∧ c3 = c2 := by injection hv with h1 h2 h3; exact ⟨h1, trivial, h3.symm⟩
                        obtain ⟨z2, hz2⟩ : ∃ k, k = n6 - D := ⟨_, rfl⟩
                        have e11 : IntKind.i64.wrap ((n6 : Int) - D) = (z2 : Int) := by rw [IntWalk.i64_in _ (by omega)]; omega
                        have hcl2 := hcl z2 (by rw [HLi.out]; omega)
                        obtain ⟨x, hx⟩ : ∃ x, x = (cpy i0 d K).getD z2 0 := ⟨_, rfl⟩
                        rw [← hx] at hcl2
                        have HSN : Hid (cpy i0 d K ++ [x] = cpy (i0 + 1) d K) := show _ = _ from by
                          rw [cpy_snoc, hx, HLi.out, show n6 - d - 1 = z2 by omega]
                        have fz1 : (0 : Int) ≤ z2 := by omega
                        have fz2 : (z2 : Int) < n6 := by omega
                        have HOA := Lib.hid (HOi.out.below (bw_alloc (Below.refl wr.heap.size wr) (.cells #[.int .u8 (x.toNat : Int)] 5)) (Nat.le_refl _))
                        have HBA := Lib.hid (bw_alloc HBi.out (.cells #[.int .u8 (x.toNat : Int)] 5))
                        have HN6 := Lib.hid hn6
                        have hn61 : n6 ≤ 1048576 + 200 := by omega
                        clear hx hz2 hn6 hv hcl
                        go_wp2_with ((at_builtin; refine wpList_appZ rfl (.tmp 93) (.tmp 101) 48 rfl w.heap.size (.slice (some ⟨g2, 0, none⟩) n6 c3) (cpy i0 d K) rfl HOA.out _ rfl [x] (byte_src rfl (heap_alloc_new wr _)) Nat.one_pos (by have := HLi.out; simp only [List.length_cons, List.length_nil]; omega) ?_); intro v6 w6 HO6 HB6)
                        have hsh := HO6.out.shape
                        rw [HSN.out] at hsh HO6
                        obtain ⟨q7, c7, rfl⟩ := hsh
                        have HL7 : Hid ((cpy (i0 + 1) d K).length = nn + (i0 + 1)) := show _ = _ from by rw [cpy_length, HN9.out]
                        have HW6 := Lib.hid (HBA.out.trans HB6.out)
                        go_wp2_with fail
                        go_roundg (gk - 1)
                        case measure => omega
                        case rel => exact ⟨i0 + 1, q7, _, c7, by omega, by go_num, rfl, HL7.out, HO6, HW6⟩
                      · obtain rfl : i0 = n1 := by omega
                        have HL7 : Hid (n6 = (cpy i0 d K).length) := show _ = _ from by rw [cpy_length, HN9.out]; exact hn6
                        have HN6 := Lib.hid hn6
                        have hn61 : n6 ≤ m + 68 := by omega
                        have hn62 : 68 ≤ n6 := by omega
                        have dd : decide ((i0 : Int) < i0) = false := decide_eq_false (by omega)
                        clear hn6
                        go_wp2_with fail
                        go_roundg (s.size - k3)
                        case measure => omega
                        case rel => exact ⟨k3, q2, n6, c2, _, by omega, by omega, by omega, by go_num, rfl, HL7, HST, HOi, HBi⟩
      · obtain rfl : a = s.size := by omega
        have HF : Hid (R = .ok K) := show _ = _ from by rw [← HEQ.out, HL.out]; exact sw_end
        have d0 : decide ((s.size : Int) < s.size) = false := decide_eq_false (by omega)
        have hn68 : (68 : Int) ≤ nn := by omega
        by_cases hcn : c = 68
        · have hcv := HO.out.tail0 HN.out hcn
          subst hcn
          go_wp2_with fail
          go_ret2
          exact ⟨by rw [HF.out]; rfl, HB.out⟩
        · have hcv := HO.out.tail (c2 := c - 68) (k := 68) (m := nn - 68) HN.out (by omega)
          go_wp2_with fail
          go_ret2
          exact ⟨by rw [HF.out]; rfl, HB.out⟩
open Go.RowKit
theorem unwin_err : ∀ (f : Nat) (l k : List UInt8) (m : Nat) (e : Int), unwin f l k m = .error e → e = 3 ∨ e = 5 ∨ e = 6
  | 0, _, _, _, _, h => by simp [unwin] at h
  | f + 1, [], _, _, _, h => by simp [unwin] at h
  | f + 1, c :: r, k, m, e, h => by
    unfold unwin at h
    split at h
    · injection h with h; exact .inr (.inr h.symm)
    · split at h
      · split at h
        · injection h with h; exact .inr (.inl h.symm)
        · split at h
          · injection h with h; exact .inl h.symm
          · exact unwin_err f _ _ _ _ h
      · split at h
        · split at h
          · injection h with h; exact .inr (.inr h.symm)
          · split at h
            · injection h with h; exact .inl h.symm
            · exact unwin_err f _ _ _ _ h
        · injection h with h; exact .inr (.inl h.symm)
theorem unwin_len : ∀ (f : Nat) (l k : List UInt8) (m : Nat) (K : List UInt8), unwin f l k m = .ok K → K.length ≤ max k.length (m + 68)
  | 0, _, k, m, K, h => by simp [unwin] at h; subst h; omega
  | f + 1, [], k, m, K, h => by simp [unwin] at h; subst h; omega
  | f + 1, c :: r, k, m, K, h => by
    unfold unwin at h
    split at h
    · cases h
    · split at h
      · split at h
        · cases h
        · split at h
          · cases h
          · have := unwin_len f _ _ _ _ h
            rw [List.length_append, List.length_take] at this
            omega
      · split at h
        · split at h
          · cases h
          · split at h
            · cases h
            · have := unwin_len f _ _ _ _ h
              rw [cpy_length] at this
              omega
        · cases h
theorem uwin8_err {l : List UInt8} {m : Nat} {e : Int} (h : uwin8 l m = .error e) : e = 3 ∨ e = 5 ∨ e = 6 := by
  unfold uwin8 at h
  split at h
  · cases h
  · rename_i e' h'
    injection h with h
    subst h
    exact unwin_err _ _ _ _ _ h'
theorem uwin8_len {l t : List UInt8} {m : Nat} (h : uwin8 l m = .ok t) : t.length ≤ m := by
  unfold uwin8 at h
  split at h
  · rename_i K h'
    injection h with h
    have := unwin_len _ _ _ _ _ h'
    rw [statL_length] at this
    rw [← h, List.length_drop]
    omega
  · cases h
end Go.Proofs.YtbeooeihedhabaaDoor
