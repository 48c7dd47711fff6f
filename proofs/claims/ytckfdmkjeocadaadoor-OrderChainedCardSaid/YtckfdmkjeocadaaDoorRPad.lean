/- The reference's padding, a hash's bytes: what the calls do. -/
import Derived.Test.YtckfdmkjeocadaaDoorRSha
namespace Go.Proofs.YtckfdmkjeocadaaDoor
open Go.RowKit
theorem OwnB.shape {B : Nat} {v : Value} {xs : List UInt8} {w : World} (h : OwnB B v xs w) : ∃ g cap, v = .slice (some ⟨g, 0, none⟩) xs.length cap := by
  obtain ⟨g, cap, rest, fr, hv, _⟩ := h
  exact ⟨g, cap, hv⟩
def lenOf : Value → Nat
  | .slice _ n _ => n
  | _ => 0
theorem OwnB.lenOf {B : Nat} {v : Value} {xs : List UInt8} {w : World} (h : OwnB B v xs w) : lenOf v = xs.length := by
  obtain ⟨g, cap, rest, fr, rfl, _⟩ := h
  rfl
theorem OwnB.shapeN {B N : Nat} {v : Value} {xs : List UInt8} {w : World} (h : OwnB B v xs w) (hN : xs.length = N) : ∃ g cap, v = .slice (some ⟨g, 0, none⟩) N cap := by
  subst hN
  exact h.shape
theorem OwnB.empty (w : World) (t : TypeId) (ht : t = 5) {B : Nat} (hB : B ≤ w.heap.size) : OwnB B (.slice (some ⟨w.heap.size, 0, none⟩) 0 0) [] (w.alloc (.cells #[] t)) := by
  subst ht
  exact ⟨w.heap.size, 0, [], (0, 0), rfl, hB, heap_alloc_new w _, rfl, by simp [maxLen], .inl rfl⟩
theorem take_snoc {l : List UInt8} {i : Nat} (h : i < l.length) : l.take i ++ [l.getD i 0] = l.take (i + 1) := by
  rw [List.take_succ_eq_append_getElem h, List.getD_eq_getElem?_getD, List.getElem?_eq_getElem h]
  rfl
set_option maxHeartbeats 400000 in
set_option maxRecDepth 4000 in
theorem rbytes_any (h : List UInt8) (w : World) (hl : h.length = 32) :
    Calls Tryd.prog 64 #[.agg (u8s h).toArray] w fun e w' => e = .returned (.string (bstr h)) ∧ Below w.heap.size w w' := by
  have HL := Lib.hid hl
  have hO0 := Lib.hid (OwnB.empty (w.alloc (.cells (u8s h).toArray 23)) _ rfl (B := w.heap.size + 1) (by simp))
  have hg0 := Lib.hid ((Below.heap_alloc (w.alloc (.cells (u8s h).toArray 23)) (.cells #[] 5) w.heap.size (by simp)).trans (heap_alloc_new w (.cells (u8s h).toArray 23)))
  clear hl
  go_enter Tryd.func64, Tryd.ntmps64
  go_wp2
  go_loopw [3, 4] (fun b i wr => ∃ k : Nat, k ≤ 32 ∧ i = .int .i64 k ∧ Hid (Below w.heap.size w wr) ∧ Hid (wr.heap[w.heap.size]? = some (.cells (u8s h).toArray 23 (0, 0))) ∧ Hid (OwnB (w.heap.size + 1) b (h.take k) wr)) (fun _ i _ => 32 - (intOf i).toNat)
  case atStart => exact ⟨0, by omega, rfl, bw_alloc (bw_alloc (Below.refl _ _) _) _, hg0.out, show OwnB _ _ _ _ from by simpa using hO0.out⟩
  case round =>
    clear hO0 hg0
    obtain ⟨k, hk, rfl, hB, hg, hO⟩ := hrel
    by_cases hlt : k < 32
    · have hc : wr.cell? ⟨w.heap.size, k, none⟩ = some (.int .u8 (h.getD k 0).toNat) := by
        rw [cell_of_row wr _ k _ _ _ hg.out, List.getElem?_toArray, u8s_get h k (by rw [HL.out]; exact hlt)]
        simp [List.getElem?_eq_getElem (show k < h.length by rw [HL.out]; exact hlt)]
      have h0 : (0 : Int) ≤ k := by omega
      have h1 : (k : Int) < 32 := by omega
      have hlk : (h.take k).length ≤ 32 := by rw [List.length_take]; omega
      obtain ⟨c, hcq⟩ : ∃ c, c = h.getD k 0 := ⟨_, rfl⟩
      rw [← hcq] at hc
      have HC := Lib.hid hcq
      clear hcq
      go_wp2_with ((at_builtin; go_loud (refine wpList_app_byte rfl (.tmp 10) (.tmp 14) rfl (w.heap.size + 1) _ (h.take k) (by rfl) hO.out c _ (by rfl) (by rfl) _ (by omega) ?_)); intro v3 w3 hO3 hb3)
      go_roundw
      case rel => exact ⟨k + 1, by omega, by go_num, hB.out.trans (hb3.out.mono (by omega)), (hb3.out.block _ (by omega)).trans hg.out, by have := hO3.out; rw [HC.out, take_snoc (by rw [HL.out]; exact hlt)] at this; exact this⟩
      case measure => simp [intOf]; omega
    · obtain rfl : k = 32 := by omega
      have hcv := hO.out.conv
      rw [List.take_of_length_le (by rw [HL.out]; omega)] at hcv
      go_wp2
      go_ret
      exact ⟨rfl, hB.out⟩
theorem byte_cast2 (n i : Nat) : ((n : Int) / 2 ^ i % 256) = ((UInt8.ofNat (n / 2 ^ i % 256)).toNat : Int) := byte_cast n i
set_option maxHeartbeats 1000000 in
set_option maxRecDepth 4000 in
theorem padded_any (s : ByteArray) (w : World) (hs : s.size ≤ 140737488355200) :
    Calls Tryd.prog 93 #[.string s] w fun e w' => ∃ v, e = .returned v ∧ OwnB w.heap.size v (pad s.data.toList) w' ∧ Below w.heap.size w w' := by
  obtain ⟨v1, W1, hcv, hO1, hb1⟩ := conv_own w s (by unfold maxLen; omega)
  obtain ⟨g1, c1, rfl⟩ := hO1.shape
  have hsl : s.data.toList.length = s.size := rfl
  rw [hsl] at hcv
  have HO1 := Lib.hid hO1
  have HB1 := Lib.hid hb1
  have HSL := Lib.hid hsl
  obtain ⟨S, hS⟩ : ∃ S, S = s.data.toList := ⟨_, rfl⟩
  rw [← hS] at HO1 HSL ⊢
  clear hO1 hb1 hsl hS
  obtain ⟨P, hP⟩ : ∃ P, P = padZ s.size := ⟨_, rfl⟩
  have hP2 : (s.size + 1 + P) % 64 = 56 ∧ P < 64 ∧ ∀ z, z < P → (s.size + 1 + z) % 64 ≠ 56 := by
    rw [hP]
    unfold padZ
    refine ⟨by omega, by omega, fun z hz => by omega⟩
  obtain ⟨hPa, hPb, hPc⟩ := hP2
  have HPC := Lib.hid hPc
  have HP := Lib.hid hP
  clear hP hPc
  go_enter Tryd.func93, Tryd.ntmps93
  go_wp2_with ((at_builtin; refine wpList_app_byte rfl (.tmp 8) (.tmp 9) rfl w.heap.size _ S (by rw [HSL.out]; rfl) HO1.out 128 _ rfl rfl _ (by rw [HSL.out]; omega) ?_); intro v2 w2 hO2 hb2)
  clear hcv
  have HB2 := Lib.hid (HB1.out.trans hb2.out)
  clear hb2
  go_loopw [3] (fun b wr => ∃ z : Nat, z ≤ P ∧ Hid (Below w.heap.size w wr) ∧ Hid (OwnB w.heap.size b (S ++ [128] ++ zr z) wr)) (fun b _ => P - (lenOf b - (s.size + 1)))
  case atStart => exact ⟨0, by omega, HB2.out, show OwnB _ _ _ _ from by simpa [zr] using hO2.out⟩
  case round =>
    clear HB2 hO2
    obtain ⟨z, hz, hB, hO⟩ := hrel
    obtain ⟨xs, hxs⟩ : ∃ xs, xs = S ++ [128] ++ zr z := ⟨_, rfl⟩
    rw [← hxs] at hO
    have hxl : xs.length = s.size + 1 + z := by rw [hxs]; simp [zr_length, HSL.out]; omega
    have HXS := Lib.hid hxs
    obtain ⟨N, hN⟩ : ∃ N, N = xs.length := ⟨_, rfl⟩
    obtain ⟨g, cap, rfl⟩ := hO.out.shapeN hN.symm
    have hNz : N = s.size + 1 + z := by omega
    have HN := Lib.hid hN
    clear hN hxs hxl
    by_cases hlt : z < P
    · have hne : ¬ ((N : Int) % 64 = 56) := by have := HPC.out z hlt; omega
      have hNm : (N : Int) ≤ 140737488355300 := by omega
      have HNZ := Lib.hid hNz
      clear hNz
      go_wp2_with ((at_builtin; go_loud (refine wpList_app_byte rfl (.tmp 15) (.tmp 16) rfl w.heap.size _ xs (by rfl) hO.out 0 _ (by rfl) (by rfl) _ (by have := HN.out; omega) ?_)); intro v3 w3 hO3 hb3)
      go_roundw
      case rel => exact ⟨z + 1, by omega, hB.out.trans hb3.out, by have := hO3.out; rw [HXS.out, List.append_assoc, show zr z ++ [0] = zr (z + 1) from (zr_add z 1).symm] at this; exact this⟩
      case measure => rw [hO3.out.lenOf, List.length_append, ← HN.out, HNZ.out]; simp [lenOf]; omega
    · obtain rfl : z = P := by omega
      have hne : ((N : Int) % 64 = 56) := by omega
      have hNm : N ≤ 140737488355300 := by omega
      clear hNz
      obtain ⟨bits, hbits⟩ : ∃ b, b = s.size * 8 := ⟨_, rfl⟩
      have hbe : (s.size : Int) * 8 = (bits : Int) := by omega
      have hbm : s.size * 8 ≤ 18446744073709551615 := by omega
      have HBITS := Lib.hid hbits
      have hsz9 : s.size ≤ 140737488355300 := by omega
      clear hbits
      go_wp2
      obtain ⟨Z, hZ⟩ : ∃ Z, Z = xs := ⟨_, rfl⟩
      have hO0 : Hid (OwnB w.heap.size (.slice (some ⟨g, 0, none⟩) N cap) (xs ++ padB bits (8 - 8)) wr) := show OwnB _ _ _ _ from by simpa [padB] using hO.out
      have HB0 := hB
      clear hO hB hZ hne
      go_loopw [3, 5] (fun b i wr => ∃ j : Nat, j ≤ 8 ∧ i = .int .i64 ((j : Int) - 1) ∧ Hid (Below w.heap.size w wr) ∧ Hid (OwnB w.heap.size b (xs ++ padB bits (8 - j)) wr)) (fun _ i _ => (intOf i + 1).toNat)
      case atStart => exact ⟨8, by omega, rfl, HB0.out, hO0.out⟩
      case round =>
        clear HB0 hO0
        obtain ⟨j, hj, rfl, hB, hO⟩ := hrel
        cases j with
        | succ k =>
          rw [show (((k + 1 : Nat) : Int) - 1) = (k : Int) by omega]
          have hk0 : (0 : Int) ≤ k := by omega
          have hk1 : (0 : Int) ≤ 8 * k := by omega
          have hk2 : (k : Int) ≤ 7 := by omega
          have e1 : IntKind.i64.wrap (8 * (k : Int)) = 8 * k := IntWalk.i64_in _ (by omega)
          have e2 : (8 * (k : Int)).toNat = 8 * k := by omega
          have hlen : (xs ++ padB bits (8 - (k + 1))).length + 1 ≤ 140737488355328 := by rw [List.length_append, padB_length, ← HN.out]; omega
          have HLN := Lib.hid hlen
          clear hlen
          go_wp2_with ((at_builtin; go_loud (refine wpList_app_byte rfl (.tmp 26) (.tmp 32) rfl w.heap.size _ _ (by rfl) hO.out (UInt8.ofNat (bits / 2 ^ (8 * k) % 256)) _ (byte_cast bits (8 * k)) (by rfl) _ HLN.out ?_)); intro v3 w3 hO3 hb3)
          go_roundw
          case rel => exact ⟨k, by omega, by go_num, hB.out.trans hb3.out, by
            have := hO3.out
            rw [List.append_assoc, show padB bits (8 - (k + 1)) ++ [UInt8.ofNat (bits / 2 ^ (8 * k) % 256)] = padB bits (8 - k) by
              rw [show 8 - k = (8 - (k + 1)) + 1 by omega, padB, show 7 - (8 - (k + 1)) = k by omega]] at this
            exact this⟩
          case measure => simp [intOf]
        | zero =>
          go_wp2
          go_ret
          refine ⟨_, rfl, ?_, hB.out⟩
          have := hO.out
          rw [HXS.out, HBITS.out, HP.out] at this
          unfold pad
          rw [HSL.out]
          exact this
end Go.Proofs.YtckfdmkjeocadaaDoor
