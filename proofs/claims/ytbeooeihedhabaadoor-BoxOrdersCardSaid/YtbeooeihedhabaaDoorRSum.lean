/- The reference's Sum: what the call does. -/
import Derived.Test.YtbeooeihedhabaaDoorRSumB
namespace Go.Proofs.YtbeooeihedhabaaDoor
open Go.RowKit
set_option maxHeartbeats 20000000 in
set_option maxRecDepth 100000 in
theorem rsum_any (s : ByteArray) (w : World) (hs : s.size ≤ 140737488355200) :
    Calls Tryd.prog 56 #[.string s] w fun e w' => e = .returned (.agg (u8s (sha s.data.toList)).toArray) ∧ Below w.heap.size w w' := by
  have hr0 := heap_alloc_new w (.cells (u8s z32).toArray 51)
  have HR0 := Lib.hid hr0
  clear hr0
  go_enter Tryd.func56, Tryd.ntmps56
  go_wp2_with fail
  refine (padded_any s _ hs).mono ?_
  rintro e w1 ⟨v, rfl, hO, hb⟩
  obtain ⟨L, hL⟩ : ∃ L, L = pad s.data.toList := ⟨_, rfl⟩
  rw [← hL] at hO
  have hLl : L.length = s.size + 1 + padZ s.size + 8 := by rw [hL, pad_length]; rfl
  have HL := Lib.hid hL
  obtain ⟨g, cap, rest, fr, rfl, hg, hh, hcap, hmax, hfr⟩ := hO
  clear hL hfr hmax
  obtain ⟨N, hN⟩ : ∃ N, N = L.length / 64 := ⟨_, rfl⟩
  have hN64 : L.length = 64 * N := by
    rw [hLl] at hN ⊢
    unfold padZ at hN ⊢
    omega
  have hNb : 64 * N ≤ 140737488355600 := by
    rw [← hN64, hLl]
    unfold padZ
    omega
  have hA0 : RS w (w1.alloc (.cells (u32v shaInit.l).toArray 77)) g w1.heap.size (u8s L ++ rest) fr shaInit.l := by
    have h0 := Lib.hid hg
    simp at hg
    exact ⟨bw_alloc (bw_call (bw_alloc (Below.refl _ _) _) hb) _, by omega, block_lt hh, (Below.heap_alloc _ _ _ (Nat.lt_of_lt_of_le (by simp) hb.size)).trans ((hb.block _ (by simp)).trans HR0.out), (Below.heap_alloc _ _ _ (block_lt hh)).trans hh, heap_alloc_new _ _⟩
  have HA0 := Lib.hid hA0
  have HNN := Lib.hid hN
  have HN64 := Lib.hid hN64
  clear hA0 hN hLl hb hh hg hcap
  rw [hN64]
  clear hN64
  go_wp2_with fail
  generalize w1.heap.size = H at *
  go_loopw [5] (fun at_ wr => ∃ (m : Nat) (v : St), m ≤ N ∧ at_ = .int .i64 (64 * (m : Int)) ∧ Hid (v = runFrom shaInit L m) ∧ Hid (RS w wr g H (u8s L ++ rest) fr v.l)) (fun i _ => 64 * N - (intOf i).toNat)
  case atStart => exact ⟨0, _, by omega, rfl, rfl, HA0.out⟩
  case round =>
    clear HA0 HR0
    obtain ⟨m, v, hm, rfl, hv, hA⟩ := hrel
    by_cases hlt : m < N
    · have hlt2 : 64 * (m : Int) < 64 * (N : Int) := by omega
      have hml : 64 * m + 64 ≤ L.length := by rw [HN64.out]; omega
      have HML := Lib.hid hml
      have hHX := hA.out.lt
      go_wp2_with (refine wpList_make_full _ rfl _ _ 104 rfl wr.heap.size 77 _ (.int .u32 0) 1 Tryd.underlying104 info32 rfl rfl .i64 .i64 64 64 64 rfl rfl rfl rfl (by simp) (by unfold maxLen; omega) (Nat.le_refl _) ?_; intro wM hownM hgM)
      have hW0 := Lib.hid (made_row hownM)
      have hA1 := Lib.hid (hA.out.below ((Below.refl _ _).grown hgM (Nat.le_refl _) (fun k h => by cases h)))
      clear hA hownM hgM hml
      generalize wr.heap.size = X at *
      go_loopw [7] (fun t wr => ∃ (k : Nat) (W : List Int), k ≤ 64 ∧ t = .int .i64 k ∧ Hid (W = wseq (blk L m) k ++ zs (64 - k)) ∧ Hid (RS w wr g H (u8s L ++ rest) fr v.l) ∧ Hid (WAt wr X W)) (fun t _ => 64 - (intOf t).toNat)
      case atStart => exact ⟨0, _, by omega, rfl, rfl, hA1.out, hW0.out⟩
      case round =>
        clear hA1 hW0
        obtain ⟨k, W, hk, rfl, hW, hA, hX⟩ := hrel
        have hWl : W.length = 64 := by rw [hW.out, List.length_append, wseq_length]; unfold zs; rw [List.length_replicate]; omega
        by_cases hk64 : k < 64
        · by_cases hk16 : k < 16
          · as_aux_lemma =>
            obtain ⟨p, hp⟩ : ∃ p : Nat, p = 64 * m + 4 * k := ⟨_, rfl⟩
            have hpL : p + 3 < L.length := by rw [hp]; have := HML.out; omega
            obtain ⟨x0, hx0⟩ : ∃ a, a = by_ L p := ⟨_, rfl⟩
            obtain ⟨x1, hx1⟩ : ∃ a, a = by_ L (p + 1) := ⟨_, rfl⟩
            obtain ⟨x2, hx2⟩ : ∃ a, a = by_ L (p + 2) := ⟨_, rfl⟩
            obtain ⟨x3, hx3⟩ : ∃ a, a = by_ L (p + 3) := ⟨_, rfl⟩
            have hc0 := hA.out.bcell p (by omega)
            have hc1 := hA.out.bcell (p + 1) (by omega)
            have hc2 := hA.out.bcell (p + 2) (by omega)
            have hc3 := hA.out.bcell (p + 3) (by omega)
            rw [← hx0] at hc0; rw [← hx1] at hc1; rw [← hx2] at hc2; rw [← hx3] at hc3
            have r0 : 0 ≤ x0 ∧ x0 ≤ 255 := by rw [hx0]; exact by_range _ _
            have r1 : 0 ≤ x1 ∧ x1 ≤ 255 := by rw [hx1]; exact by_range _ _
            have r2 : 0 ≤ x2 ∧ x2 ≤ 255 := by rw [hx2]; exact by_range _ _
            have r3 : 0 ≤ x3 ∧ x3 ≤ 255 := by rw [hx3]; exact by_range _ _
            obtain ⟨r0a, r0b⟩ := r0
            obtain ⟨r1a, r1b⟩ := r1
            obtain ⟨r2a, r2b⟩ := r2
            obtain ⟨r3a, r3b⟩ := r3
            have HX0 := Lib.hid hx0
            have HX1 := Lib.hid hx1
            have HX2 := Lib.hid hx2
            have HX3 := Lib.hid hx3
            have HP := Lib.hid hp
            have hpN : (p : Int) + 3 < 64 * (N : Int) := by have := HN64.out; omega
            have e1 : IntKind.i64.wrap (4 * (k : Int)) = 4 * k := IntWalk.i64_in _ (by omega)
            have e2 : IntKind.i64.wrap (64 * (m : Int) + 4 * (k : Int)) = p := by rw [IntWalk.i64_in _ (by omega)]; omega
            have e3 : 64 * (m : Int) + 4 * (k : Int) = p := by omega
            have e4 : IntKind.i64.wrap ((p : Int) + 1) = p + 1 := IntWalk.i64_in _ (by omega)
            have e5 : IntKind.i64.wrap ((p : Int) + 2) = p + 2 := IntWalk.i64_in _ (by omega)
            have e6 : IntKind.i64.wrap ((p : Int) + 3) = p + 3 := IntWalk.i64_in _ (by omega)
            have t1 : ((p : Int) + 1).toNat = p + 1 := by omega
            have t2 : ((p : Int) + 2).toNat = p + 2 := by omega
            have t3 : ((p : Int) + 3).toNat = p + 3 := by omega
            have q0 : (0 : Int) ≤ p := by omega
            have q1 : (0 : Int) ≤ p + 1 := by omega
            have q2 : (0 : Int) ≤ p + 2 := by omega
            have q3 : (0 : Int) ≤ p + 3 := by omega
            have l0 : (p : Int) < 64 * (N : Int) := by omega
            have l1 : (p : Int) + 1 < 64 * (N : Int) := by omega
            have l2 : (p : Int) + 2 < 64 * (N : Int) := by omega
            have u0 : IntKind.u32.wrap x0 = x0 := wrap32_in (by omega) (by omega)
            have u1 : IntKind.u32.wrap x1 = x1 := wrap32_in (by omega) (by omega)
            have u2 : IntKind.u32.wrap x2 = x2 := wrap32_in (by omega) (by omega)
            have u3 : IntKind.u32.wrap x3 = x3 := wrap32_in (by omega) (by omega)
            have v0 : IntKind.u32.wrap (x0 * 16777216) = x0 * 16777216 := wrap32_in (by omega) (by omega)
            have v1 : IntKind.u32.wrap (x1 * 65536) = x1 * 65536 := wrap32_in (by omega) (by omega)
            have v2 : IntKind.u32.wrap (x2 * 256) = x2 * 256 := wrap32_in (by omega) (by omega)
            have v3 : IntKind.u32.wrap (x0 * 16777216 + x1 * 65536) = x0 * 16777216 + x1 * 65536 := wrap32_in (by omega) (by omega)
            have v4 : IntKind.u32.wrap (x0 * 16777216 + x1 * 65536 + x2 * 256) = x0 * 16777216 + x1 * 65536 + x2 * 256 := wrap32_in (by omega) (by omega)
            have v5 : IntKind.u32.wrap (x0 * 16777216 + x1 * 65536 + x2 * 256 + x3) = x0 * 16777216 + x1 * 65536 + x2 * 256 + x3 := wrap32_in (by omega) (by omega)
            have k0 : (0 : Int) ≤ k := by omega
            have k1 : (k : Int) < 64 := by omega
            clear hx0 hx1 hx2 hx3 hp hpL
            go_wp2
            go_still_tail 31, (by kernel_rfl)
            change wpList _ _ _ _ _ wr.drew
            have hA2 := Lib.hid hA.out.drew
            have hX2 := Lib.hid (show WAt wr.drew X W from hX.out)
            have hc := hX2.out.cell k (by omega)
            have hf := hX2.out.free k
            clear hA hX hc0 hc1 hc2 hc3
            generalize wr.drew = w2 at *
            go_wp2
            go_roundw
            case rel => exact ⟨k + 1, W.set k (word (blk L m) k), by omega, by go_num, show _ = _ by rw [hW.out, set_zs _ k 64 _ (wseq_length _ _) (by omega), wseq, if_pos hk16], hA2.out.set hHX k _, show WAt _ _ _ from by rw [word_blk hk16 HML.out, ← HP.out, ← HX0.out, ← HX1.out, ← HX2.out, ← HX3.out]; exact hX2.out.set k _⟩
            case measure => simp [intOf]; omega
          · as_aux_lemma =>
            obtain ⟨j, hj⟩ : ∃ j, k = j + 16 := ⟨k - 16, by omega⟩
            have hj48 : j < 48 := by omega
            obtain ⟨q1, hq1⟩ : ∃ q : Nat, q = j + 1 := ⟨_, rfl⟩
            obtain ⟨q9, hq9⟩ : ∃ q : Nat, q = j + 9 := ⟨_, rfl⟩
            obtain ⟨q14, hq14⟩ : ∃ q : Nat, q = j + 14 := ⟨_, rfl⟩
            have e1 : IntKind.i64.wrap ((k : Int) - 15) = q1 := by rw [IntWalk.i64_in _ (by omega)]; omega
            have e2 : IntKind.i64.wrap ((k : Int) - 2) = q14 := by rw [IntWalk.i64_in _ (by omega)]; omega
            have e3 : IntKind.i64.wrap ((k : Int) - 7) = q9 := by rw [IntWalk.i64_in _ (by omega)]; omega
            have e4 : IntKind.i64.wrap ((k : Int) - 16) = j := by rw [IntWalk.i64_in _ (by omega)]; omega
            have w9 : IntKind.i64.wrap (q9 : Int) = q9 := IntWalk.i64_in _ (by omega)
            have w0 : IntKind.i64.wrap (j : Int) = j := IntWalk.i64_in _ (by omega)
            have f1 : (k : Int) - 15 = q1 := by omega
            have f2 : (k : Int) - 2 = q14 := by omega
            have f3 : (k : Int) - 7 = q9 := by omega
            have f4 : (k : Int) - 16 = j := by omega
            obtain ⟨a0, hE0⟩ : ∃ a, a = W.getD j 0 := ⟨_, rfl⟩
            obtain ⟨a1, hE1⟩ : ∃ a, a = W.getD q1 0 := ⟨_, rfl⟩
            obtain ⟨a9, hE9⟩ : ∃ a, a = W.getD q9 0 := ⟨_, rfl⟩
            obtain ⟨a14, hE14⟩ : ∃ a, a = W.getD q14 0 := ⟨_, rfl⟩
            have hc0 := hX.out.cell j (by omega)
            have hc1 := hX.out.cell q1 (by omega)
            have hc9 := hX.out.cell q9 (by omega)
            have hc14 := hX.out.cell q14 (by omega)
            have hck := hX.out.cell k (by omega)
            have hfk := hX.out.free k
            rw [← hE0] at hc0; rw [← hE1] at hc1; rw [← hE9] at hc9; rw [← hE14] at hc14
            have hWr : InR W := by rw [hW.out]; exact inR_append (inR_wseq _ _) (inR_zs _)
            have r1 : 0 ≤ a1 ∧ a1 ≤ 4294967295 := by rw [hE1]; exact hWr _
            have r14 : 0 ≤ a14 ∧ a14 ≤ 4294967295 := by rw [hE14]; exact hWr _
            obtain ⟨r1a, r1b⟩ := r1
            obtain ⟨r14a, r14b⟩ := r14
            have l1 : (q1 : Int) < 64 := by omega
            have l9 : (q9 : Int) < 64 := by omega
            have l14 : (q14 : Int) < 64 := by omega
            have l0 : (j : Int) < 64 := by omega
            have lk : (k : Int) < 64 := by omega
            have m1 : (0 : Int) ≤ q1 := by omega
            have m9 : (0 : Int) ≤ q9 := by omega
            have m14 : (0 : Int) ≤ q14 := by omega
            have m0 : (0 : Int) ≤ j := by omega
            have mk : (0 : Int) ≤ k := by omega
            have HV : Hid ((sg1 a14 + a9 + sg0 a1 + a0) % 4294967296 = wnew (wseq (blk L m) k) j) := show _ = _ from wnew_ref (by rw [wseq_length]; exact hj) (by rw [← hj]; exact hW.out) hE0 (by rw [← hq1]; exact hE1) (by rw [← hq9]; exact hE9) (by rw [← hq14]; exact hE14)
            have hk16' : ¬ (k : Int) < 16 := by omega
            have HJ := Lib.hid hj
            clear hE0 hE1 hE9 hE14 hWr hj hq1 hq9 hq14
            go_wp2
            go_quiet ((go_at_call 80; exact Calls.quiet_of (right_any _ _ _ (by omega) (by omega) (by omega) (by omega))))
            go_wp2_with fail
            have d1 : (wr.drewN nq).cell? ⟨X, q14, none⟩ = some (.int .u32 a14) := hc14
            have d0 : (wr.drewN nq).cell? ⟨X, j, none⟩ = some (.int .u32 a0) := hc0
            have d9 : (wr.drewN nq).cell? ⟨X, q9, none⟩ = some (.int .u32 a9) := hc9
            have dk : (wr.drewN nq).cell? ⟨X, k, none⟩ = some (.int .u32 (W.getD k 0)) := hck
            have df : (wr.drewN nq).frozen? ⟨X, k, none⟩ = false := hfk
            have hA2 := Lib.hid (hA.out.drewN nq)
            have hX2 := Lib.hid (show WAt (wr.drewN nq) X W from hX.out)
            clear hA hX hc0 hc1 hc9 hc14 hck hfk
            generalize wr.drewN nq = w2 at *
            go_quiet ((go_at_call 80; exact Calls.quiet_of (right_any _ _ _ (by omega) (by omega) (by omega) (by omega))))
            go_wp2_with fail
            have g0 : (w2.drewN nq).cell? ⟨X, j, none⟩ = some (.int .u32 a0) := d0
            have g9 : (w2.drewN nq).cell? ⟨X, q9, none⟩ = some (.int .u32 a9) := d9
            have gk : (w2.drewN nq).cell? ⟨X, k, none⟩ = some (.int .u32 (W.getD k 0)) := dk
            have gf : (w2.drewN nq).frozen? ⟨X, k, none⟩ = false := df
            have hA3 := Lib.hid (hA2.out.drewN nq)
            have hX3 := Lib.hid (show WAt (w2.drewN nq) X W from hX2.out)
            clear hA2 hX2 d0 d1 d9 dk df
            generalize w2.drewN nq = w3 at *
            go_still_tail 17, (by kernel_rfl)
            change wpList _ _ _ _ _ w3.drew
            have gk2 : w3.drew.cell? ⟨X, k, none⟩ = some (.int .u32 (W.getD k 0)) := gk
            have gf2 : w3.drew.frozen? ⟨X, k, none⟩ = false := gf
            have hA4 := Lib.hid hA3.out.drew
            have hX4 := Lib.hid (show WAt w3.drew X W from hX3.out)
            clear hA3 hX3 g0 g9 gk gf
            generalize w3.drew = w4 at *
            go_wp2
            go_roundw
            case rel => exact ⟨k + 1, W.set k (wnew (wseq (blk L m) k) j), by omega, by go_num, show _ = _ by rw [hW.out, set_zs _ k 64 _ (wseq_length _ _) (by omega), wseq, if_neg hk16, HJ.out, Nat.add_sub_cancel], hA4.out.set hHX k _, show WAt _ _ _ from by rw [← HV.out]; exact hX4.out.set k _⟩
            case measure => simp [intOf]; omega
        · obtain rfl : k = 64 := by omega
          have hW2 : Hid (W = sched (blk L m) 48) := show _ = _ by rw [hW.out]; show wseq _ (48 + 16) ++ _ = _; rw [wseq_sched]; simp [zs]
          have hWR : Hid (InR W) := show _ by rw [hW2.out]; exact inR_sched _ _
          have hWL := Lib.hid hWl
          have HWLen : Hid (W.length = 64) := show _ from hWl
          have hOZ := own_zero wr
          have hsH : ∀ j u, (u32v v.l)[j]? = some u → (wr.alloc (.cells #[] 77)).cell? ((⟨H, 0, none⟩ : Addr).add j) = some u := fun j u hju => by
            have hadd : (⟨H, 0, none⟩ : Addr).add j = ⟨H, j, none⟩ := by unfold Addr.add; split <;> simp_all
            rw [hadd, cell_of_row _ H j _ _ _ (hA.out.alloc _).st, List.getElem?_toArray]
            exact hju
          have HSH := Lib.hid hsH
          have hsz : wr.heap.size ≤ (wr.alloc (.cells #[] 77)).heap.size := by simp
          have hXl := block_lt hX.out
          clear hWl hsH hW
          go_wp2_with ((at_builtin; go_loud (refine wpList_append_own (wr.alloc (.cells #[] 77)) rfl (.tmp 128) (.tmp 129) 104 rfl wr.heap.size 77 _ (.int .u32 0) 1 4 Tryd.underlying104 info32 rfl rfl rfl rfl (by decide) _ 0 [] (by rfl) hOZ ⟨H, 0, none⟩ 8 8 (u32v v.l) (by rfl) rfl HSH.out (u32v_one _) (by unfold maxLen; omega) (by omega) hsz ?_)); intro vv w5 hown hg5 _)
          obtain ⟨y, cy, rfl, hy, hV0⟩ := v_start hown
          have hb5 : Below wr.heap.size (wr.alloc (.cells #[] 77)) w5 := (Below.refl _ _).grown hg5 hsz (fun k hk => by cases hk; exact Nat.le_refl _)
          have hb6 : Below wr.heap.size wr w5 := (bw_alloc (Below.refl _ _) _).trans hb5
          have hA3 := Lib.hid (hA.out.below hb6)
          have hX3 := Lib.hid (hX.out.below hb6)
          have hV3 := Lib.hid hV0
          have hHy : H < y := by omega
          clear hA hX hV0 hb5 hb6 hown hg5 hOZ HSH hsz
          go_loopw [11, 12] (fun vv t wr => ∃ (i y cy : Nat) (u : St), i ≤ 64 ∧ H < y ∧ t = .int .i64 i ∧ vv = .slice (some ⟨y, 0, none⟩) 8 cy ∧ Hid (u = St.rounds v W i) ∧ Hid (RS w wr g H (u8s L ++ rest) fr v.l) ∧ Hid (WAt wr X W) ∧ Hid (VAt wr y u)) (fun _ t _ => 64 - (intOf t).toNat)
          case atStart => exact ⟨0, y, cy, v, by omega, hHy, rfl, rfl, rfl, hA3.out, hX3.out, hV3.out⟩
          case round =>
            clear hA3 hX3 hV3 hy hHy
            obtain ⟨i, y, cy, u, hi, hHy, rfl, rfl, hu, hA, hX, hV⟩ := hrel
            by_cases hi64 : i < 64
            · obtain ⟨c0, c1, c2, c3, c4, c5, c6, c7⟩ := hV.out.cells
              have huo : Hid (InR u.l) := show _ by rw [hu.out]; exact St.ok.rounds (by rw [hv.out]; exact runFrom_ok shaInit_ok _ _) _ _
              obtain ⟨⟨ra0, ra1⟩, _, _, _, ⟨re0, re1⟩, _⟩ := St.ok.at (show u.ok from huo.out)
              obtain ⟨wi, hwi⟩ : ∃ x, x = W.getD i 0 := ⟨_, rfl⟩
              have cw := hX.out.cell i (by rw [HWLen.out]; exact hi64)
              rw [← hwi] at cw
              have HWI := Lib.hid hwi
              obtain ⟨ri, hri⟩ : ∃ x, x = rkL.getD i 0 := ⟨_, rfl⟩
              have HRI := Lib.hid hri
              clear hwi hri
              have i0 : (0 : Int) ≤ i := by omega
              have i1 : (i : Int) < 64 := by omega
              have hyl := hV.out.1
              have hXl2 := block_lt hX.out
              have keep : ∀ W', Below wr.heap.size wr W' → (Below wr.heap.size wr W' ∧ W'.cell? ⟨y, 4, none⟩ = some (.int .u32 u.e) ∧ W'.cell? ⟨y, 5, none⟩ = some (.int .u32 u.f) ∧ W'.cell? ⟨y, 6, none⟩ = some (.int .u32 u.g) ∧ W'.cell? ⟨y, 7, none⟩ = some (.int .u32 u.h) ∧ W'.cell? ⟨X, i, none⟩ = some (.int .u32 wi)) := fun W' hb =>
                ⟨hb, (hb.cell (p := ⟨y, 4, none⟩) hyl).trans c4, (hb.cell (p := ⟨y, 5, none⟩) hyl).trans c5, (hb.cell (p := ⟨y, 6, none⟩) hyl).trans c6, (hb.cell (p := ⟨y, 7, none⟩) hyl).trans c7, (hb.cell (p := ⟨X, i, none⟩) hXl2).trans cw⟩
              have KEEP := Lib.hid keep
              clear keep
              go_wp2
              go_region_held3 (fun W' => Below wr.heap.size wr W' ∧ W'.cell? ⟨y, 4, none⟩ = some (.int .u32 u.e) ∧ W'.cell? ⟨y, 5, none⟩ = some (.int .u32 u.f) ∧ W'.cell? ⟨y, 6, none⟩ = some (.int .u32 u.g) ∧ W'.cell? ⟨y, 7, none⟩ = some (.int .u32 u.h) ∧ W'.cell? ⟨X, i, none⟩ = some (.int .u32 wi)) (first | exact KEEP.out _ (Below.refl _ _) | exact KEEP.out _ (bw_drewN (Below.refl _ _) _) | exact KEEP.out _ (Below.refl _ _).drew | exact KEEP.out _ (bw_call (bw_drewN (Below.refl _ _) _) hbw)) (first | (go_at_call 81; refine (three_any _ _ _ _ _ (by omega) (by omega) (by omega) (by omega) (by omega) (by omega) (by omega) (by omega)).mono ?_; rintro e w' ⟨rfl, m, rfl⟩) | (go_at_call 82; refine (word_ex i ri _ hi64 HRI.out).mono ?_; rintro e w' ⟨rfl, hbw⟩))
              have hBw : Below wr.heap.size wr w' := bw_call (bw_drewN (Below.refl _ _) _) hbw
              have hA2 := Lib.hid (hA.out.below hBw)
              have hX2 := Lib.hid (hX.out.below hBw)
              have hV2 := Lib.hid (hV.out.below hBw)
              clear hA hX hV hBw hbw c0 c1 c2 c3 c4 c5 c6 c7 cw hyl hXl2 KEEP
              generalize hxe : IntKind.u32.wrap (IntKind.u32.wrap (IntKind.u32.wrap (IntKind.u32.wrap (u.h + thr u.e 6 11 25) + bits BinOp.xor IntKind.u32 (bits BinOp.and IntKind.u32 u.e u.f) (bits BinOp.and IntKind.u32 (bits BinOp.xor IntKind.u32 IntKind.u32.max u.e) u.g)) + ri) + wi) = x
              have HXE := Lib.hid hxe
              clear hxe
              obtain ⟨c0, c1, c2, c3, c4, c5, c6, c7⟩ := hV2.out.cells
              go_wp2_with fail
              go_quiet ((go_at_call 81; exact Calls.quiet_of (three_any _ _ _ _ _ (by omega) (by omega) (by omega) (by omega) (by omega) (by omega) (by omega) (by omega))))
              generalize hye : (thr u.a 2 13 22 + bits BinOp.xor IntKind.u32 (bits BinOp.xor IntKind.u32 (bits BinOp.and IntKind.u32 u.a u.b) (bits BinOp.and IntKind.u32 u.a u.c)) (bits BinOp.and IntKind.u32 u.b u.c)) % 4294967296 = y'
              have HYE := Lib.hid hye
              clear hye
              have hA3 := Lib.hid (hA2.out.drewN nq)
              have hX3 := Lib.hid (show WAt (w'.drewN nq) X W from hX2.out)
              have hV3 := Lib.hid (show VAt (w'.drewN nq) y u from hV2.out)
              clear hA2 hX2 hV2 c0 c1 c2 c3 c4 c5 c6 c7
              go_wp2_with fail
              generalize w'.drewN nq = w3 at *
              obtain ⟨c0, c1, c2, c3, c4, c5, c6, c7⟩ := hV3.out.cells
              go_still_tail 26, (by kernel_rfl)
              change wpList _ _ _ _ _ w3.drew
              have hA4 := Lib.hid hA3.out.drew
              have hX4 := Lib.hid (show WAt w3.drew X W from hX3.out)
              clear hA3 hX3 hV3 c0 c1 c2 c3 c4 c5 c6 c7
              generalize w3.drew = w4 at *
              go_wp2
              go_roundw
              case rel =>
                obtain ⟨ea, ee⟩ := round_ae (s := u) (k := ri) (w := wi) (x := x) (y := y') (by rw [← HXE.out, round_x]) (by rw [← HYE.out, round_y])
                exact ⟨i + 1, w4.heap.size, 8, u.round ri wi, by omega, Nat.lt_trans hHX (block_lt hX4.out), by go_num, rfl, show _ = _ by rw [hu.out, HRI.out, HWI.out]; rfl, hA4.out.alloc _, hX4.out.below (bw_alloc (Below.refl _ _) _), VAt.new _ _ ea rfl rfl rfl ee rfl rfl rfl⟩
              case measure => simp [intOf]; omega
            · obtain rfl : i = 64 := by omega
              simp only [show ((64 : Nat) : Int) = 64 from rfl]
              have hA4 := hA
              have hV4 := hV
              have hu4 := hu
              clear hA hX hV hu
              go_wp2
              go_loopw [15] (fun t wr => ∃ (i : Nat) (S : List Int), i ≤ 8 ∧ t = .int .i64 i ∧ Hid (S = addTo v.l u.l i) ∧ Hid (RS w wr g H (u8s L ++ rest) fr S) ∧ Hid (VAt wr y u)) (fun t _ => 8 - (intOf t).toNat)
              case atStart => exact ⟨0, _, by omega, rfl, rfl, hA4.out, hV4.out⟩
              case round =>
                clear hA4 hV4
                obtain ⟨i, S, hi, rfl, hS, hA, hV⟩ := hrel
                by_cases hi8 : i < 8
                · as_aux_lemma =>
                  have hSl : S.length = 8 := by rw [hS.out, addTo_length]; rfl
                  have cS := hA.out.scell i (by omega)
                  have fS := hA.out.sfree i
                  have cV := hV.out.2 i hi8
                  obtain ⟨x, hx⟩ : ∃ x, x = S.getD i 0 := ⟨_, rfl⟩
                  obtain ⟨z, hz⟩ : ∃ z, z = u.l.getD i 0 := ⟨_, rfl⟩
                  rw [← hx] at cS
                  rw [← hz] at cV
                  have HX := Lib.hid hx
                  have HZ := Lib.hid hz
                  have i0 : (0 : Int) ≤ i := by omega
                  have i1 : (i : Int) < 8 := by omega
                  clear hx hz hSl
                  go_wp2
                  go_still_tail 11, (by kernel_rfl)
                  change wpList _ _ _ _ _ wr.drew
                  have cS2 : wr.drew.cell? ⟨H, i, none⟩ = some (.int .u32 x) := cS
                  have fS2 : wr.drew.frozen? ⟨H, i, none⟩ = false := fS
                  have hA2 := Lib.hid hA.out.drew
                  have hV2 := Lib.hid (show VAt wr.drew y u from hV.out)
                  clear hA hV cS fS cV
                  generalize wr.drew = w2 at *
                  go_wp2
                  go_roundw
                  case rel => exact ⟨i + 1, S.set i (M32 (x + z)), by omega, by go_num, show _ = _ by rw [HX.out, HZ.out, hS.out]; rfl, hA2.out.setH i _, hV2.out.setH hHy i _⟩
                  case measure => simp [intOf]; omega
                · obtain rfl : i = 8 := by omega
                  simp only [show ((8 : Nat) : Int) = 8 from rfl]
                  have hA5 : Hid (RS w wr g H (u8s L ++ rest) fr (v.block (blk L m)).l) := show RS _ _ _ _ _ _ _ from by
                    have e1 : S = (v.block (blk L m)).l := by rw [hS.out, addTo_all, hu4.out, hW2.out]; rfl
                    rw [← e1]
                    exact hA.out
                  clear hA hV hS
                  have e64 : IntKind.i64.wrap (64 * (m : Int) + 64) = 64 * (m : Int) + 64 := IntWalk.i64_in _ (by omega)
                  go_wp2
                  go_roundw
                  case rel => exact ⟨m + 1, _, by omega, by go_num, show _ = _ by rw [runFrom, ← hv.out], hA5.out⟩
                  case measure => simp [intOf]; omega
    · obtain rfl : m = N := by omega
      have hO0 := block_lt hA.out.out
      have hz0 : (wr.alloc (.cells zl32.toArray 51)).heap[wr.heap.size]? = some (.cells (u8s z32).toArray 51 (0, 0)) := by rw [zl32_eq]; exact heap_alloc_new _ _
      have hA1 := Lib.hid (hA.out.alloc (.cells zl32.toArray 51))
      have hHO := hA.out.lt
      have hvo : Hid v.ok := show _ by rw [hv.out]; exact runFrom_ok shaInit_ok _ _
      clear hA
      go_wp2_with ((with_reducible refine wpList_store_whole rfl 51 (.tmp 16) (.tmp 239) rfl wr.heap.size zl32 (u8s z32) 51 rfl rfl hz0 (by rw [zl32_length, u8s_length, z32_length]) (by rw [zl32_eq]; exact hash_info z32_length) zl32_one ?_); intro w3 hU)
      have HZ0 := Lib.hid hU.out.at_
      have hA2 := Lib.hid (hA1.out.upd hHO hU.out)
      clear hz0 hO0 hA1 hU
      generalize wr.heap.size = O at *
      go_loopw [17] (fun t wr' => ∃ i : Nat, i ≤ 32 ∧ t = .int .i64 i ∧ Hid (RS w wr' g H (u8s L ++ rest) fr v.l) ∧ Hid (wr'.heap[O]? = some (.cells (u8s (outI v i)).toArray 51 (0, 0)))) (fun t _ => 32 - (intOf t).toNat)
      case atStart => exact ⟨0, by omega, rfl, hA2.out, show _ = _ by have := HZ0.out; rw [zl32_eq] at this; exact this⟩
      case round =>
        clear hA2 HZ0
        obtain ⟨i, hi, rfl, hA, hO⟩ := hrel
        by_cases hi32 : i < 32
        · as_aux_lemma =>
          obtain ⟨q, hq⟩ : ∃ q : Nat, q = i / 4 := ⟨_, rfl⟩
          obtain ⟨r, hr⟩ : ∃ r : Nat, r = i % 4 := ⟨_, rfl⟩
          obtain ⟨sh, hsh⟩ : ∃ x : Nat, x = 24 - 8 * r := ⟨_, rfl⟩
          have hob : (v.l.getD q 0 / 2 ^ sh) % 256 = ((v.out.getD i 0).toNat : Int) := by rw [hq, hsh, hr]; exact out_byte hvo.out hi32
          obtain ⟨x, hx⟩ : ∃ x, x = v.l.getD q 0 := ⟨_, rfl⟩
          have cH := hA.out.scell q (by rw [St.l_length]; omega)
          rw [← hx] at hob cH
          have HOB := Lib.hid hob
          have cO : wr.cell? ⟨O, i, none⟩ = some (.int .u8 ((outI v i).getD i 0).toNat) := by
            rw [cell_of_row wr _ i _ _ _ hO.out, List.getElem?_toArray, u8s_get _ i (by rw [outI_length v hi]; exact hi32)]
            simp [List.getElem?_eq_getElem (show i < (outI v i).length by rw [outI_length v hi]; exact hi32)]
          have fO : wr.frozen? ⟨O, i, none⟩ = false := frozen_of_row wr _ i _ _ hO.out
          have q0 : (0 : Int) ≤ q := by omega
          have q1 : (q : Int) < 8 := by omega
          have i0 : (0 : Int) ≤ i := by omega
          have i1 : (i : Int) < 32 := by omega
          have s0 : (0 : Int) ≤ sh := by omega
          have g1 : (i : Int) / 4 = q := by omega
          have g2 : (i : Int) % 4 = r := by omega
          have g3 : 24 - 8 * (r : Int) = sh := by omega
          have g4 : IntKind.i64.wrap (8 * (r : Int)) = 8 * r := IntWalk.i64_in _ (by omega)
          have g5 : IntKind.i64.wrap (24 - 8 * (r : Int)) = sh := by rw [IntWalk.i64_in _ (by omega)]; omega
          have g6 : IntKind.i64.wrap (q : Int) = q := IntWalk.i64_in _ (by omega)
          have g7 : IntKind.i64.wrap (sh : Int) = sh := IntWalk.i64_in _ (by omega)
          clear hq hr hsh hob hx
          go_wp2
          go_roundw
          case rel => exact ⟨i + 1, by omega, by go_num, hA.out.set hHO i _, show _ = _ by
            rw [HOB.out, ← outI_set v hi32, ← u8s_set]
            exact heap_setCell_same wr O i _ _ _ hO.out⟩
          case measure => simp [intOf]; omega
        · obtain rfl : i = 32 := by omega
          simp only [show ((32 : Nat) : Int) = 32 from rfl]
          have hoe : outI v 32 = v.out := by unfold outI; rw [List.take_of_length_le (by rw [out_length]; omega)]; show _ ++ [] = _; rw [List.append_nil]
          have hO2 := hO.out
          rw [hoe] at hO2
          have hvl : v.out = sha s.data.toList := by rw [hv.out, HNN.out, HL.out]; exact sha_pad _
          have HVL := Lib.hid hvl
          have hgl := hA.out.out
          have HB := Lib.hid hA.out.b
          clear hA hO hoe hvl
          have hol := out_length v
          obtain ⟨r, hr⟩ : ∃ r, r = v.out := ⟨_, rfl⟩
          rw [← hr] at hol hO2 HVL
          have HOL := Lib.hid hol
          clear hol hr
          go_wp2_with (first
            | (with_reducible refine wpList_load_rows rfl 51 (.tmp 16) rfl O 0 (u8s r) (u8s r) 51 (0, 0) _ rfl hO2 id_at Tryd.underlying51 rfl (hash_info HOL.out) ?_)
            | ((with_reducible refine wpList_store_whole rfl 51 (.tmp 2) (.tmp 257) rfl w.heap.size (u8s r) (u8s z32) 51 rfl rfl hgl (by rw [u8s_length, u8s_length, HOL.out, z32_length]) (hash_info HOL.out) (u8s_one _) ?_); intro w4 hU4))
          exact post_cell 2 51 rfl w.heap.size _ (u8s r) _ _ hU4.out.at_ Tryd.underlying51 rfl (hash_info HOL.out) rfl rfl ⟨by rw [HVL.out], hU4.out.below HB.out (Nat.le_refl _)⟩
end Go.Proofs.YtbeooeihedhabaaDoor
