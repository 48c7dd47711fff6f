/- cavalcadelaw04.TxStays: what the call does. -/
import Derived.Test.YtckfdmkjeocadaaDoorHand
import Derived.Test.YtckfdmkjeocadaaDoorAwake04
namespace Go.Proofs.YtckfdmkjeocadaaDoor
open Go.RowKit
set_option maxHeartbeats 2000000
set_option maxRecDepth 4000
theorem setTag_chk (t : TX) (l : List UInt8) : (setTag t l).chk = t.chk := rfl
theorem setTag_signed {t : TX} (h : t.chk = 0) : (setTag t t.tagNow).signed = 0 := by
  rw [TX.signed, if_pos (show (setTag t t.tagNow).chk = 0 from h), errTag, if_pos (show (setTag t t.tagNow).tagNow = (setTag t t.tagNow).tag from rfl)]
theorem setBy_chk {t : TX} (l : List UInt8) (hl : t.lane = true) (h : t.chk = 0) : (setBy t l).chk = 0 := by
  rw [← h]
  unfold TX.chk
  simp [setBy, hl]
theorem setBy_signed {t : TX} (l : List UInt8) (hl : t.lane = true) (h : t.chk = 0) (hs : t.signed = 0) : (setBy t l).signed = 0 := by
  rw [TX.signed, if_pos (setBy_chk l hl h)]
  rw [TX.signed, if_pos h] at hs
  exact hs
theorem handChk_zero {t : TX} {who : Int} (h : t.handChk who = 0) : t.chk = 0 ∧ t.lane = true := by
  unfold TX.handChk at h
  by_cases h1 : t.chk = 0
  · rw [if_pos h1] at h
    by_cases h2 : 0 ≤ who ∧ who < 64
    · rw [if_pos h2] at h
      by_cases h3 : t.lane = true
      · exact ⟨h1, h3⟩
      · rw [if_neg h3] at h; cases h
    · rw [if_neg h2] at h; cases h
  · rw [if_neg h1] at h
    exact absurd h h1
theorem laneNow_length (t : TX) (who : Int) : (t.laneNow who).length = 32 := tagOf_length _ _ _
theorem stays_any (t : TX) (who : Int) (w : World) (ht : t.wf) (hR : RoundsAt w) :
    Calls Tryd.prog 6 #[.agg t.cells.toArray, .int .i64 who] w fun e w' => e = .returned (.bool true) ∧ Below w.heap.size w w' := by
  have HT := Lib.hid ht
  have HR := Lib.hid hR
  have hA0 := TxAt.start w t
  have hg0 := hA0.2
  have HA0 := Lib.hid hA0
  have hlt : w.heap.size < (w.alloc (.cells t.cells.toArray 25)).heap.size := by simp
  clear hA0 ht hR
  obtain ⟨k, hk⟩ : ∃ k, k = t.chk := ⟨_, rfl⟩
  have HK := Lib.hid hk
  by_cases hk0 : k = 0
  · subst hk0
    obtain ⟨S, hS⟩ : ∃ S, S = setTag t t.tagNow := ⟨_, rfl⟩
    have HSI : Hid (t.signRes = S) := show _ = _ by rw [hS, TX.signRes, if_pos hk.symm]
    have HSW : Hid S.wf := show _ by rw [hS]; exact setTag_wf HT.out (tagOf_length _ _ _)
    have HSC : Hid (S.chk = 0) := show _ = _ by rw [hS]; exact hk.symm
    have HSS : Hid (S.signed = 0) := show _ = _ by rw [hS]; exact setTag_signed hk.symm
    have HSL : Hid (S.cells.length = zlTx.length) := show _ = _ from S.cells_length HSW.out.by_ HSW.out.tag
    clear hk hS
    go_enter Tryd.func6, Tryd.ntmps6
    go_wp2_with (with_reducible refine wpList_load_rows rfl 25 (.tmp 2) rfl w.heap.size 0 t.cells t.cells 25 (0, 0) _ rfl hg0 id_at Tryd.underlying25 rfl (tx_info HT.out) ?_)
    refine (sign_any t _ HT.out (HR.out.below HA0.out.1 HR.out.1)).mono ?_
    rintro e w1 ⟨rfl, hb1⟩
    rw [← HK.out, HSI.out]
    have hz1 : (w1.alloc (.cells Tryd.zeroCells25 25)).heap[w1.heap.size]? = some (.cells zlTx.toArray 25 (0, 0)) := heap_alloc_new w1 _
    have hle1 := (bw_call HA0.out.1 hb1).size
    have HB1 := Lib.hid (bw_alloc (bw_call HA0.out.1 hb1) (.cells Tryd.zeroCells25 25))
    clear hb1 hg0
    go_wp2_with ((with_reducible refine wpList_store_whole rfl 25 (.tmp 5) (.tmp 12) rfl w1.heap.size S.cells zlTx 25 rfl rfl hz1 HSL.out (tx_info HSW.out) (start_one _) ?_); intro w2 hU2; have hT2 := hU2.out.at_; have HB2 := Lib.hid (hU2.out.below HB1.out hle1); clear hz1)
    have hR2 := HR.out.below HB2.out HR.out.1
    refine (awake_any _ hR2).mono ?_
    rintro e w3 ⟨rfl, hb3⟩
    have hT3 := (hb3.block _ (block_lt hT2)).trans hT2
    have HB3 := Lib.hid (bw_call HB2.out hb3)
    clear hb3 hR2 hT2
    go_wp2_with (with_reducible refine wpList_load_rows rfl 25 (.tmp 5) rfl w1.heap.size 0 S.cells S.cells 25 (0, 0) _ rfl hT3 id_at Tryd.underlying25 rfl (tx_info HSW.out) ?_)
    refine (hand_any S who _ HSW.out (HR.out.below HB3.out HR.out.1)).mono ?_
    rintro e w4 ⟨rfl, hb4⟩
    obtain ⟨B, hB⟩ : ∃ B, B = S.handRes who := ⟨_, rfl⟩
    obtain ⟨q, hq⟩ : ∃ q, q = S.handChk who := ⟨_, rfl⟩
    rw [← hB, ← hq]
    have hT4 := (Below.heap_alloc w4 (.cells Tryd.zeroCells25 25) _ (block_lt ((hb4.block _ (block_lt hT3)).trans hT3))).trans ((hb4.block _ (block_lt hT3)).trans hT3)
    have hz4 : (w4.alloc (.cells Tryd.zeroCells25 25)).heap[w4.heap.size]? = some (.cells zlTx.toArray 25 (0, 0)) := heap_alloc_new w4 _
    have hne : w1.heap.size ≠ w4.heap.size := Nat.ne_of_lt (block_lt ((hb4.block _ (block_lt hT3)).trans hT3))
    have HB4 := Lib.hid (bw_alloc (bw_call HB3.out hb4) (.cells Tryd.zeroCells25 25))
    have hle4 := (bw_call HB3.out hb4).size
    clear hb4 hT3
    by_cases hq0 : q = 0
    · subst hq0
      obtain ⟨_, hln⟩ := handChk_zero hq.symm
      have hB2 : B = setBy S (S.laneNow who) := by rw [hB, TX.handRes, if_pos hq.symm]
      have HBW : Hid B.wf := show _ by rw [hB2]; exact lby_wf HSW.out (laneNow_length _ _)
      have HBC : Hid (B.chk = 0) := show _ = _ by rw [hB2]; exact setBy_chk _ hln HSC.out
      have HBS : Hid (B.signed = 0) := show _ = _ by rw [hB2]; exact setBy_signed _ hln HSC.out HSS.out
      have HBT : Hid (B.tag = S.tag) := show _ = _ by rw [hB2]; rfl
      have HBL : Hid (B.cells.length = zlTx.length) := show _ = _ from B.cells_length HBW.out.by_ HBW.out.tag
      have heq := fun w => eq_hash HSW.out.tag HSW.out.tag w
      have hd : decide (S.tag = S.tag) = true := decide_eq_true rfl
      have HAT : Hid (∀ j v, (u8s S.tag)[j]? = some v → B.cells[40 + j]? = some v) := by rw [← HBT.out]; exact TX.at_tag HBW.out.by_
      clear hB hq hln hB2
      go_wp2_with (first
        | ((with_reducible refine wpList_store_whole rfl 25 (.tmp 7) (.tmp 30) rfl w4.heap.size B.cells zlTx 25 rfl rfl hz4 HBL.out (tx_info HBW.out) (start_one _) ?_); intro w5 hU5; have hT5 := (hU5.out.other _ hne).trans hT4; have hC5 := hU5.out.at_; have HB5 := Lib.hid (hU5.out.below HB4.out hle4); clear hz4 hT4)
        | (with_reducible refine wpList_load_rows rfl 25 (.tmp 5) rfl w1.heap.size 0 S.cells S.cells 25 (0, 0) _ rfl hT5 id_at Tryd.underlying25 rfl (tx_info HSW.out) ?_))
      refine (signed_any S _ HSW.out (HR.out.below HB5.out HR.out.1)).mono ?_
      rintro e w6 ⟨rfl, hb6⟩
      rw [HSS.out]
      have hT6 := (hb6.block _ (block_lt hT5)).trans hT5
      have hC6 := (hb6.block _ (block_lt hC5)).trans hC5
      have HB6 := Lib.hid (bw_call HB5.out hb6)
      clear hb6 hT5 hC5
      go_wp2_with (with_reducible refine wpList_load_rows_g (by kernel_rfl) 25 (.tmp 7) rfl w4.heap.size 0 B.cells B.cells 25 (0, 0) _ rfl hC6 id_at Tryd.underlying25 rfl (tx_info HBW.out) ?_)
      refine (signed_any B _ HBW.out (HR.out.below HB6.out HR.out.1)).mono ?_
      rintro e w7 ⟨rfl, hb7⟩
      rw [HBS.out]
      have hT7 := (hb7.block _ (block_lt hT6)).trans hT6
      have hC7 := (hb7.block _ (block_lt hC6)).trans hC6
      have HB7 := Lib.hid (bw_call HB6.out hb7)
      clear hb7 hT6 hC6
      go_wp2_with (first
        | (with_reducible refine wpList_load_rows_g (by kernel_rfl) 23 (.tmp 56) rfl w4.heap.size 40 (u8s S.tag) B.cells 25 (0, 0) _ rfl hC7 HAT.out Tryd.underlying23 rfl (hash_info HSW.out.tag) ?_)
        | (with_reducible refine wpList_load_rows_g (by kernel_rfl) 23 (.tmp 58) rfl w1.heap.size 40 (u8s S.tag) S.cells 25 (0, 0) _ rfl hT7 (TX.at_tag HSW.out.by_) Tryd.underlying23 rfl (hash_info HSW.out.tag) ?_)
        | (with_reducible refine wpList_load_rows_g (by kernel_rfl) 25 (.tmp 7) rfl w4.heap.size 0 B.cells B.cells 25 (0, 0) _ rfl hC7 id_at Tryd.underlying25 rfl (tx_info HBW.out) ?_))
      refine (check_any B _ HBW.out).mono ?_
      rintro e w8 ⟨rfl, hb8⟩
      rw [HBC.out]
      go_wp2_with fail
      go_ret
      exact ⟨rfl, bw_call HB7.out hb8⟩
    · have hq1 : (q != 0) = true := by simpa using hq0
      have hB2 : B = TX.zero := by rw [hB, TX.handRes, ← hq, if_neg hq0]
      subst hB2
      clear hB hq
      go_wp2_with (first
        | ((with_reducible refine wpList_store_whole rfl 25 (.tmp 7) (.tmp 30) rfl w4.heap.size TX.zero.cells zlTx 25 rfl rfl hz4 rfl (tx_info TX.zero_wf) (start_one _) ?_); intro w5 hU5; have hT5 := (hU5.out.other _ hne).trans hT4; have hC5 := hU5.out.at_; have HB5 := Lib.hid (hU5.out.below HB4.out hle4); clear hz4 hT4)
        | (with_reducible refine wpList_load_rows rfl 25 (.tmp 5) rfl w1.heap.size 0 S.cells S.cells 25 (0, 0) _ rfl hT5 id_at Tryd.underlying25 rfl (tx_info HSW.out) ?_))
      refine (signed_any S _ HSW.out (HR.out.below HB5.out HR.out.1)).mono ?_
      rintro e w6 ⟨rfl, hb6⟩
      rw [HSS.out]
      have hT6 := (hb6.block _ (block_lt hT5)).trans hT5
      have hC6 := (hb6.block _ (block_lt hC5)).trans hC5
      have HB6 := Lib.hid (bw_call HB5.out hb6)
      clear hb6 hT5 hC5
      go_wp2_with (with_reducible refine wpList_load_rows_g (by kernel_rfl) 25 (.tmp 5) rfl w1.heap.size 0 S.cells S.cells 25 (0, 0) _ rfl hT6 id_at Tryd.underlying25 rfl (tx_info HSW.out) ?_)
      refine (check_any S _ HSW.out).mono ?_
      rintro e w7 ⟨rfl, hb7⟩
      rw [HSC.out]
      have hC7 := (hb7.block _ (block_lt hC6)).trans hC6
      have HB7 := Lib.hid (bw_call HB6.out hb7)
      clear hb7 hT6 hC6
      go_wp2_with (first
        | (with_reducible refine wpList_load_rows_g (by kernel_rfl) 25 (.tmp 7) rfl w4.heap.size 0 TX.zero.cells TX.zero.cells 25 (0, 0) _ rfl hC7 id_at Tryd.underlying25 rfl (tx_info TX.zero_wf) ?_)
        | (with_reducible refine wpList_build_g (by kernel_rfl) 25 [] rfl [] (.agg TX.zero.cells.toArray) rfl (tx_build0 _) ?_)
        | ((with_reducible refine wpList_bin_g (by kernel_rfl) .eql 25 25 (.tmp 43) (.tmp 44) rfl (.agg TX.zero.cells.toArray) (.agg TX.zero.cells.toArray) (.bool (decide (TX.zero = TX.zero))) rfl rfl (tx_eqG _ _ _ _ _ _) (tx_eql TX.zero_wf TX.zero_wf _) ?_); rw [decide_eq_true (rfl : TX.zero = TX.zero)]))
      go_ret
      exact ⟨rfl, HB7.out⟩
  · have hk1 : (k != 0) = true := by simpa using hk0
    have HSI : Hid (t.signRes = TX.zero) := show _ = _ by rw [TX.signRes, if_neg (by rw [← hk]; exact hk0)]
    clear hk
    go_enter Tryd.func6, Tryd.ntmps6
    go_wp2_with (with_reducible refine wpList_load_rows rfl 25 (.tmp 2) rfl w.heap.size 0 t.cells t.cells 25 (0, 0) _ rfl hg0 id_at Tryd.underlying25 rfl (tx_info HT.out) ?_)
    refine (sign_any t _ HT.out (HR.out.below HA0.out.1 HR.out.1)).mono ?_
    rintro e w1 ⟨rfl, hb1⟩
    rw [← HK.out, HSI.out]
    have hz1 : (w1.alloc (.cells Tryd.zeroCells25 25)).heap[w1.heap.size]? = some (.cells zlTx.toArray 25 (0, 0)) := heap_alloc_new w1 _
    have hle1 := (bw_call HA0.out.1 hb1).size
    have HB1 := Lib.hid (bw_alloc (bw_call HA0.out.1 hb1) (.cells Tryd.zeroCells25 25))
    clear hb1 hg0
    go_wp2_with ((with_reducible refine wpList_store_whole rfl 25 (.tmp 5) (.tmp 12) rfl w1.heap.size TX.zero.cells zlTx 25 rfl rfl hz1 rfl (tx_info TX.zero_wf) (start_one _) ?_); intro w2 hU2; have hT2 := hU2.out.at_; have HB2 := Lib.hid (hU2.out.below HB1.out hle1); clear hz1)
    have hR2 := HR.out.below HB2.out HR.out.1
    refine (awake_any _ hR2).mono ?_
    rintro e w3 ⟨rfl, hb3⟩
    have hT3 := (hb3.block _ (block_lt hT2)).trans hT2
    have HB3 := Lib.hid (bw_call HB2.out hb3)
    clear hb3 hR2 hT2
    go_wp2_with fail
    refine (awake_any _ (HR.out.below HB3.out HR.out.1)).mono ?_
    rintro e w4 ⟨rfl, hb4⟩
    have hT4 := (hb4.block _ (block_lt hT3)).trans hT3
    have HB4 := Lib.hid (bw_call HB3.out hb4)
    clear hb4 hT3
    go_wp2_with (first
      | (with_reducible refine wpList_load_rows_g (by kernel_rfl) 25 (.tmp 5) rfl w1.heap.size 0 TX.zero.cells TX.zero.cells 25 (0, 0) _ rfl hT4 id_at Tryd.underlying25 rfl (tx_info TX.zero_wf) ?_)
      | (with_reducible refine wpList_build_g (by kernel_rfl) 25 [] rfl [] (.agg TX.zero.cells.toArray) rfl (tx_build0 _) ?_)
      | ((with_reducible refine wpList_bin_g (by kernel_rfl) .eql 25 25 (.tmp 22) (.tmp 23) rfl (.agg TX.zero.cells.toArray) (.agg TX.zero.cells.toArray) (.bool (decide (TX.zero = TX.zero))) rfl rfl (tx_eqG _ _ _ _ _ _) (tx_eql TX.zero_wf TX.zero_wf _) ?_); rw [decide_eq_true (rfl : TX.zero = TX.zero)]))
    go_ret
    exact ⟨rfl, HB4.out⟩
end Go.Proofs.YtckfdmkjeocadaaDoor
