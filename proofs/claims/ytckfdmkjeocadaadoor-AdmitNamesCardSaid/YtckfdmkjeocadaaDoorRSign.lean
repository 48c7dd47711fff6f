/- The reference's Signed, Sign, Hand: what the calls do. -/
import Derived.Test.YtckfdmkjeocadaaDoorRTx
import Derived.Test.YtckfdmkjeocadaaDoorLaw04
namespace Go.Proofs.YtckfdmkjeocadaaDoor
open Go.RowKit
set_option maxHeartbeats 1000000
set_option maxRecDepth 4000
theorem rsigned_any (t : TX) (w : World) (ht : t.wf) :
    Calls Tryd.prog 28 #[.agg t.cells.toArray] w fun e w' => e = .returned (.int .i64 t.signed) ∧ Below w.heap.size w w' := by
  have HT := Lib.hid ht
  have hA0 := TxAt.start w t
  have hg0 := hA0.2
  have HA0 := Lib.hid hA0
  clear hA0 ht
  obtain ⟨k, hk⟩ : ∃ k, k = t.chk := ⟨_, rfl⟩
  obtain ⟨r, hr⟩ : ∃ r, r = t.signed := ⟨_, rfl⟩
  obtain ⟨b, hb⟩ : ∃ b, b = t.bodyS := ⟨_, rfl⟩
  have HK := Lib.hid hk
  have HRS := Lib.hid hr
  have HBS := Lib.hid hb
  rw [← hr]
  clear hb hr
  have hlt : w.heap.size < (w.alloc (.cells t.cells.toArray 25)).heap.size := by simp
  by_cases hk0 : k = 0
  · subst hk0
    have hck : t.chk = 0 := hk.symm
    have HCK := Lib.hid hck
    have hr2 : Hid (r = errTag t.tagNow t.tag) := show _ = _ by rw [HRS.out, TX.signed, if_pos hck]
    clear hk hck
    go_enter Tryd.func28, Tryd.ntmps28
    go_wp2_with (with_reducible refine wpList_load_rows rfl 25 (.tmp 1) rfl w.heap.size 0 t.cells t.cells 25 (0, 0) _ rfl hg0 id_at Tryd.underlying25 rfl (tx_info HT.out) ?_)
    refine (rbody_any t _ HT.out).mono ?_
    rintro e w1 ⟨rfl, hb1⟩
    rw [← HK.out, ← HBS.out]
    have hA1 := HA0.out.below hb1 hlt (bw_call (bw_alloc (Below.refl _ _) _) hb1)
    have hg1 := hA1.2
    have hc0 := hA1.cell 0 _ rfl
    have HA1 := Lib.hid hA1
    clear hA1 hb1 hg0
    go_wp2_with (with_reducible refine wpList_load_rows rfl 23 (.tmp 16) rfl w.heap.size 40 (u8s t.tag) t.cells 25 (0, 0) _ rfl hg1 (TX.at_tag HT.out.by_) Tryd.underlying23 rfl (hash_info HT.out.tag) ?_)
    have hz := TX.chk_zero HCK.out
    have hbo := bodyS_ok HCK.out
    refine (rchk_ok t.frm 1 b t.tag _ hz.1.1.1.1 (by omega) (by decide) (by decide) (by rw [HBS.out]; exact hbo.1) HT.out.tag).mono ?_
    rintro e w5 ⟨rfl, hb5⟩
    have HB5 := Lib.hid (bw_call HA1.out.1 hb5)
    have HTG : Hid (tagOf t.frm.toNat 1 b.data.toList = t.tagNow) := show _ = _ by rw [HBS.out, hbo.2]; rfl
    clear hb5 hz hbo
    go_wp2_with fail
    go_ret
    rw [hr2.out, HTG.out]
    exact ⟨rfl, HB5.out⟩
  · have hkb : (k != 0) = true := by simpa using hk0
    have hr2 : Hid (r = k) := show _ = _ by rw [HRS.out, TX.signed, if_neg (by rw [← HK.out]; exact hk0), HK.out]
    clear hk
    go_enter Tryd.func28, Tryd.ntmps28
    go_wp2_with (with_reducible refine wpList_load_rows rfl 25 (.tmp 1) rfl w.heap.size 0 t.cells t.cells 25 (0, 0) _ rfl hg0 id_at Tryd.underlying25 rfl (tx_info HT.out) ?_)
    refine (rbody_any t _ HT.out).mono ?_
    rintro e w1 ⟨rfl, hb1⟩
    rw [← HK.out]
    have HB1 := Lib.hid (bw_call (bw_alloc (Below.refl _ _) _) hb1)
    clear hb1
    go_wp2_with fail
    go_ret
    rw [hr2.out]
    exact ⟨rfl, HB1.out⟩
theorem rsign_any (t : TX) (w : World) (ht : t.wf) :
    Calls Tryd.prog 24 #[.agg t.cells.toArray] w fun e w' => e = .returned (.tuple #[.agg t.signRes.cells.toArray, .int .i64 t.chk]) ∧ Below w.heap.size w w' := by
  have HT := Lib.hid ht
  have hA0 := TxAt.start w t
  have hA01 : TxAt w ((w.alloc (.cells t.cells.toArray 25)).alloc (.cells Tryd.zeroCells25 25)) t := hA0.below (bw_alloc (Below.refl _ _) _) (by simp) (bw_alloc hA0.1 _)
  have hg0 := hA01.2
  have hz0 : ((w.alloc (.cells t.cells.toArray 25)).alloc (.cells Tryd.zeroCells25 25)).heap[w.heap.size + 1]? = some (.cells zlTx.toArray 25 (0, 0)) := heap_alloc2_new w _ _
  have HA0 := Lib.hid hA01
  have HZ0 := Lib.hid hz0
  clear hA0 hA01 ht
  obtain ⟨k, hk⟩ : ∃ k, k = t.chk := ⟨_, rfl⟩
  obtain ⟨r, hr⟩ : ∃ r, r = t.signRes := ⟨_, rfl⟩
  obtain ⟨b, hb⟩ : ∃ b, b = t.bodyS := ⟨_, rfl⟩
  have HK := Lib.hid hk
  have HRS := Lib.hid hr
  have HBS := Lib.hid hb
  rw [← hr, ← hk]
  clear hb hr hz0
  have hlt : w.heap.size < ((w.alloc (.cells t.cells.toArray 25)).alloc (.cells Tryd.zeroCells25 25)).heap.size := by simp; omega
  by_cases hk0 : k = 0
  · subst hk0
    have hck : t.chk = 0 := hk.symm
    have HCK := Lib.hid hck
    have hr2 : Hid (r = setTag t t.tagNow) := show _ = _ by rw [HRS.out, TX.signRes, if_pos hck]
    clear hk hck
    go_enter Tryd.func24, Tryd.ntmps24
    go_wp2_with (with_reducible refine wpList_load_rows rfl 25 (.tmp 1) rfl w.heap.size 0 t.cells t.cells 25 (0, 0) _ rfl hg0 id_at Tryd.underlying25 rfl (tx_info HT.out) ?_)
    refine (rbody_any t _ HT.out).mono ?_
    rintro e w1 ⟨rfl, hb1⟩
    rw [← HK.out, ← HBS.out]
    have hA1 := HA0.out.below hb1 hlt (bw_call HA0.out.1 hb1)
    have hc0 := hA1.cell 0 _ rfl
    have HA1 := Lib.hid hA1
    have HZ1 := Lib.hid ((hb1.block _ (block_lt HZ0.out)).trans HZ0.out)
    clear hA1 hb1 hg0
    go_wp2_with fail
    have hz := TX.chk_zero HCK.out
    have hbo := bodyS_ok HCK.out
    refine (rtag_ok t.frm 1 b _ hz.1.1.1.1 (by omega) (by decide) (by decide) (by rw [HBS.out]; exact hbo.1)).mono ?_
    rintro e w5 ⟨rfl, hb5⟩
    obtain ⟨g, hg⟩ : ∃ g, g = tagOf t.frm.toNat (1 : Int).toNat b.data.toList := ⟨_, rfl⟩
    rw [← hg]
    have HGL : Hid (g.length = 32) := show _ = _ by rw [hg]; exact tagOf_length _ _ _
    have HTG : Hid (r = setTag t g) := show _ = _ by rw [hr2.out, hg, HBS.out, hbo.2]; rfl
    have hA5 := HA1.out.below hb5 (block_lt HA1.out.2) (bw_call HA1.out.1 hb5)
    have hA6 := hA5.below (bw_alloc (Below.refl _ _) (.cells zl32.toArray 23)) (block_lt hA5.2) (bw_alloc hA5.1 _)
    have HZ5 := Lib.hid ((Below.heap_alloc w5 (.cells zl32.toArray 23) _ (block_lt ((hb5.block _ (block_lt HZ1.out)).trans HZ1.out))).trans ((hb5.block _ (block_lt HZ1.out)).trans HZ1.out))
    have hz5 : (w5.alloc (.cells zl32.toArray 23)).heap[w5.heap.size]? = some (.cells (u8s z32).toArray 23 (0, 0)) := by rw [zl32_eq]; exact heap_alloc_new _ _
    have hn1 : w.heap.size ≠ w5.heap.size := Nat.ne_of_lt (block_lt hA5.2)
    have hn2 : w.heap.size + 1 ≠ w5.heap.size := Nat.ne_of_lt (block_lt ((hb5.block _ (block_lt HZ1.out)).trans HZ1.out))
    have hle5 := hA5.1.size
    have HA5 := Lib.hid hA6
    have HWF := Lib.hid (setTag_wf HT.out HGL.out)
    have HLEN : Hid ((setTag t g).cells.length = zlTx.length) := show _ = _ from (setTag t g).cells_length HWF.out.by_ HWF.out.tag
    clear hb5 hz hbo hg hA5 hA6 HZ1 HZ0
    go_wp2_with (first
      | ((with_reducible refine wpList_store_whole rfl 23 (.tmp 6) (.tmp 22) rfl w5.heap.size (u8s g) (u8s z32) 23 rfl rfl hz5 (by rw [u8s_length, u8s_length, HGL.out, z32_length]) (hash_info HGL.out) (u8s_one _) ?_); intro w6 hU6; have hh6 := hU6.out.at_; have hg6 := (hU6.out.other _ hn1).trans HA5.out.2; have HZ6 := Lib.hid ((hU6.out.other _ hn2).trans HZ5.out); have HB6 := Lib.hid (hU6.out.below HA5.out.1 hle5); clear hz5)
      | (with_reducible refine wpList_load_rows rfl 23 (.tmp 6) rfl w5.heap.size 0 (u8s g) (u8s g) 23 (0, 0) _ rfl hh6 id_at Tryd.underlying23 rfl (hash_info HGL.out) ?_)
      | ((with_reducible refine wpList_store_rows rfl 23 (.tmp 25) (.tmp 24) rfl w.heap.size 40 (u8s g) t.cells 25 rfl rfl hg6 (tag_fits HT.out HGL.out) (hash_info HGL.out) (u8s_one _) ?_); intro w7 hU7; have hT7 := hU7.out.at_; rw [tag_cells HT.out HGL.out] at hT7; have hz7 := (hU7.out.other _ (by omega)).trans HZ6.out; have HB7 := Lib.hid (hU7.out.below HB6.out (Nat.le_refl _)); clear hg6)
      | (with_reducible refine wpList_load_rows rfl 25 (.tmp 1) rfl w.heap.size 0 (setTag t g).cells (setTag t g).cells 25 (0, 0) _ rfl hT7 id_at Tryd.underlying25 rfl (tx_info HWF.out) ?_)
      | ((with_reducible refine wpList_store_whole rfl 25 (.tmp 2) (.tmp 26) rfl (w.heap.size + 1) (setTag t g).cells zlTx 25 rfl rfl hz7 HLEN.out (tx_info HWF.out) (start_one _) ?_); intro w8 hU))
    rw [HTG.out]
    exact post_cell_tmp 2 3 25 rfl (w.heap.size + 1) _ (setTag t g).cells _ _ hU.out.at_ Tryd.underlying25 rfl (tx_info HWF.out) (.int .i64 0) rfl rfl rfl ⟨rfl, hU.out.below HB7.out (Nat.le_succ _)⟩
  · have hkb : (k != 0) = true := by simpa using hk0
    have hr2 : Hid (r = TX.zero) := show _ = _ by rw [HRS.out, TX.signRes, if_neg (by rw [← HK.out]; exact hk0)]
    clear hk
    go_enter Tryd.func24, Tryd.ntmps24
    go_wp2_with (with_reducible refine wpList_load_rows rfl 25 (.tmp 1) rfl w.heap.size 0 t.cells t.cells 25 (0, 0) _ rfl hg0 id_at Tryd.underlying25 rfl (tx_info HT.out) ?_)
    refine (rbody_any t _ HT.out).mono ?_
    rintro e w1 ⟨rfl, hb1⟩
    rw [← HK.out]
    have hz1 := (hb1.block _ (block_lt HZ0.out)).trans HZ0.out
    have HB1 := Lib.hid (bw_call HA0.out.1 hb1)
    clear hb1
    go_wp2_with (first
      | (with_reducible refine wpList_build rfl 25 [] rfl [] (.agg zlTx.toArray) rfl (tx_build0 _) ?_)
      | ((with_reducible refine wpList_store_whole rfl 25 (.tmp 2) (.tmp 15) rfl (w.heap.size + 1) zlTx zlTx 25 rfl rfl hz1 rfl zlTx_info zlTx_one ?_); intro w2 hU))
    rw [hr2.out]
    exact post_cell_tmp 2 3 25 rfl (w.heap.size + 1) _ zlTx _ _ hU.out.at_ Tryd.underlying25 rfl zlTx_info (.int .i64 k) rfl rfl rfl ⟨rfl, hU.out.below HB1.out (Nat.le_succ _)⟩
theorem rhand_any (t : TX) (who : Int) (w : World) (ht : t.wf) :
    Calls Tryd.prog 26 #[.agg t.cells.toArray, .int .i64 who] w fun e w' => e = .returned (.tuple #[.agg (t.handRes who).cells.toArray, .int .i64 (t.handChk who)]) ∧ Below w.heap.size w w' := by
  have HT := Lib.hid ht
  have hA0 := TxAt.start w t
  have hA01 : TxAt w ((w.alloc (.cells t.cells.toArray 25)).alloc (.cells Tryd.zeroCells25 25)) t := hA0.below (bw_alloc (Below.refl _ _) _) (by simp) (bw_alloc hA0.1 _)
  have hg0 := hA01.2
  have hz0 : ((w.alloc (.cells t.cells.toArray 25)).alloc (.cells Tryd.zeroCells25 25)).heap[w.heap.size + 1]? = some (.cells zlTx.toArray 25 (0, 0)) := heap_alloc2_new w _ _
  have HA0 := Lib.hid hA01
  have HZ0 := Lib.hid hz0
  clear hA0 hA01 ht
  obtain ⟨k, hk⟩ : ∃ k, k = t.chk := ⟨_, rfl⟩
  obtain ⟨r, hr⟩ : ∃ r, r = t.handRes who := ⟨_, rfl⟩
  obtain ⟨q, hq⟩ : ∃ q, q = t.handChk who := ⟨_, rfl⟩
  obtain ⟨b, hb⟩ : ∃ b, b = t.bodyS := ⟨_, rfl⟩
  have HK := Lib.hid hk
  have HRS := Lib.hid hr
  have HQ := Lib.hid hq
  have HBS := Lib.hid hb
  rw [← hr, ← hq]
  clear hb hr hz0 hq
  have hlt : w.heap.size < ((w.alloc (.cells t.cells.toArray 25)).alloc (.cells Tryd.zeroCells25 25)).heap.size := by simp; omega
  by_cases hk0 : k = 0
  · subst hk0
    have hck : t.chk = 0 := hk.symm
    have HCK := Lib.hid hck
    clear hk hck
    by_cases hwho : 0 ≤ who ∧ who ≤ 63
    · have hwho2 : 0 ≤ who ∧ who < 64 := by omega
      obtain ⟨hw1, hw2⟩ := hwho
      have hdw : decide (0 ≤ who ∧ who ≤ 63) = true := decide_eq_true ⟨hw1, hw2⟩
      cases hln : t.lane with
      | true =>
        have hq2 : Hid (q = 0) := show _ = _ by rw [HQ.out, TX.handChk, if_pos HCK.out, if_pos hwho2, if_pos hln]
        have hr2 : Hid (r = setBy t (t.laneNow who)) := show _ = _ by rw [HRS.out, TX.handRes, ← HQ.out, if_pos hq2.out]
        have HLN := Lib.hid hln
        have h5 : t.cells[5]? = some (.bool true) := by rw [← HLN.out]; rfl
        clear hln hwho2
        go_enter Tryd.func26, Tryd.ntmps26
        go_wp2_with (with_reducible refine wpList_load_rows rfl 25 (.tmp 2) rfl w.heap.size 0 t.cells t.cells 25 (0, 0) _ rfl hg0 id_at Tryd.underlying25 rfl (tx_info HT.out) ?_)
        refine (rbody_any t _ HT.out).mono ?_
        rintro e w1 ⟨rfl, hb1⟩
        rw [← HK.out, ← HBS.out]
        have hA1 := HA0.out.below hb1 hlt (bw_call HA0.out.1 hb1)
        have hc0 := hA1.cell 5 _ h5
        have HA1 := Lib.hid hA1
        have HZ1 := Lib.hid ((hb1.block _ (block_lt HZ0.out)).trans HZ0.out)
        clear hA1 hb1 hg0
        go_wp2_with fail
        refine (within_any who 63 _).mono ?_
        rintro e w2 ⟨rfl, rfl⟩
        rw [hdw]
        go_wp2_with fail
        have hbo := bodyS_ok HCK.out
        refine (rtag_ok who 2 b _ hw1 (by omega) (by decide) (by decide) (by rw [HBS.out]; exact hbo.1)).mono ?_
        rintro e w5 ⟨rfl, hb5⟩
        obtain ⟨g, hg⟩ : ∃ g, g = tagOf who.toNat (2 : Int).toNat b.data.toList := ⟨_, rfl⟩
        rw [← hg]
        have HGL : Hid (g.length = 32) := show _ = _ by rw [hg]; exact tagOf_length _ _ _
        have HTG : Hid (r = setBy t g) := show _ = _ by rw [hr2.out, hg, HBS.out, hbo.2]; rfl
        have hA5 := HA1.out.below hb5 (block_lt HA1.out.2) (bw_call HA1.out.1 hb5)
        have hA6 := hA5.below (bw_alloc (Below.refl _ _) (.cells zl32.toArray 23)) (block_lt hA5.2) (bw_alloc hA5.1 _)
        have HZ5 := Lib.hid ((Below.heap_alloc w5 (.cells zl32.toArray 23) _ (block_lt ((hb5.block _ (block_lt HZ1.out)).trans HZ1.out))).trans ((hb5.block _ (block_lt HZ1.out)).trans HZ1.out))
        have hz5 : (w5.alloc (.cells zl32.toArray 23)).heap[w5.heap.size]? = some (.cells (u8s z32).toArray 23 (0, 0)) := by rw [zl32_eq]; exact heap_alloc_new _ _
        have hn1 : w.heap.size ≠ w5.heap.size := Nat.ne_of_lt (block_lt hA5.2)
        have hn2 : w.heap.size + 1 ≠ w5.heap.size := Nat.ne_of_lt (block_lt ((hb5.block _ (block_lt HZ1.out)).trans HZ1.out))
        have hle5 := hA5.1.size
        have HA5 := Lib.hid hA6
        have HWF := Lib.hid (lby_wf HT.out HGL.out)
        have HLEN : Hid ((setBy t g).cells.length = zlTx.length) := show _ = _ from (setBy t g).cells_length HWF.out.by_ HWF.out.tag
        clear hb5 hbo hg hA5 hA6 HZ1 HZ0
        go_wp2_with (first
          | ((with_reducible refine wpList_store_whole rfl 23 (.tmp 8) (.tmp 31) rfl w5.heap.size (u8s g) (u8s z32) 23 rfl rfl hz5 (by rw [u8s_length, u8s_length, HGL.out, z32_length]) (hash_info HGL.out) (u8s_one _) ?_); intro w6 hU6; have hh6 := hU6.out.at_; have hg6 := (hU6.out.other _ hn1).trans HA5.out.2; have HZ6 := Lib.hid ((hU6.out.other _ hn2).trans HZ5.out); have HB6 := Lib.hid (hU6.out.below HA5.out.1 hle5); clear hz5)
          | (with_reducible refine wpList_load_rows rfl 23 (.tmp 8) rfl w5.heap.size 0 (u8s g) (u8s g) 23 (0, 0) _ rfl hh6 id_at Tryd.underlying23 rfl (hash_info HGL.out) ?_)
          | ((with_reducible refine wpList_store_rows rfl 23 (.tmp 34) (.tmp 33) rfl w.heap.size 8 (u8s g) t.cells 25 rfl rfl hg6 (lby_fits HT.out HGL.out) (hash_info HGL.out) (u8s_one _) ?_); intro w7 hU7; have hT7 := hU7.out.at_; rw [lby_cells HT.out HGL.out] at hT7; have hz7 := (hU7.out.other _ (by omega)).trans HZ6.out; have HB7 := Lib.hid (hU7.out.below HB6.out (Nat.le_refl _)); clear hg6)
          | (with_reducible refine wpList_load_rows rfl 25 (.tmp 2) rfl w.heap.size 0 (setBy t g).cells (setBy t g).cells 25 (0, 0) _ rfl hT7 id_at Tryd.underlying25 rfl (tx_info HWF.out) ?_)
          | ((with_reducible refine wpList_store_whole rfl 25 (.tmp 4) (.tmp 35) rfl (w.heap.size + 1) (setBy t g).cells zlTx 25 rfl rfl hz7 HLEN.out (tx_info HWF.out) (start_one _) ?_); intro w8 hU))
        rw [HTG.out, hq2.out]
        exact post_cell_tmp 4 5 25 rfl (w.heap.size + 1) _ (setBy t g).cells _ _ hU.out.at_ Tryd.underlying25 rfl (tx_info HWF.out) (.int .i64 0) rfl rfl rfl ⟨rfl, hU.out.below HB7.out (Nat.le_succ _)⟩
      | false =>
        have hq2 : Hid (q = 2) := show _ = _ by rw [HQ.out, TX.handChk, if_pos HCK.out, if_pos hwho2, if_neg (by rw [hln]; decide)]
        have hr2 : Hid (r = TX.zero) := show _ = _ by rw [HRS.out, TX.handRes, ← HQ.out, if_neg (by rw [hq2.out]; decide)]
        have HLN := Lib.hid hln
        have h5 : t.cells[5]? = some (.bool false) := by rw [← HLN.out]; rfl
        clear hln hwho2
        go_enter Tryd.func26, Tryd.ntmps26
        go_wp2_with (with_reducible refine wpList_load_rows rfl 25 (.tmp 2) rfl w.heap.size 0 t.cells t.cells 25 (0, 0) _ rfl hg0 id_at Tryd.underlying25 rfl (tx_info HT.out) ?_)
        refine (rbody_any t _ HT.out).mono ?_
        rintro e w1 ⟨rfl, hb1⟩
        rw [← HK.out, ← HBS.out]
        have hA1 := HA0.out.below hb1 hlt (bw_call HA0.out.1 hb1)
        have hc0 := hA1.cell 5 _ h5
        have HA1 := Lib.hid hA1
        have hz1 := (hb1.block _ (block_lt HZ0.out)).trans HZ0.out
        clear hA1 hb1 hg0
        go_wp2_with fail
        refine (within_any who 63 _).mono ?_
        rintro e w2 ⟨rfl, rfl⟩
        rw [hdw]
        go_wp2_with (first
          | (with_reducible refine wpList_build rfl 25 [] rfl [] (.agg zlTx.toArray) rfl (tx_build0 _) ?_)
          | ((with_reducible refine wpList_store_whole rfl 25 (.tmp 4) (.tmp 26) rfl (w.heap.size + 1) zlTx zlTx 25 rfl rfl hz1 rfl zlTx_info zlTx_one ?_); intro w2 hU))
        rw [hr2.out, hq2.out]
        exact post_cell_tmp 4 5 25 rfl (w.heap.size + 1) _ zlTx _ _ hU.out.at_ Tryd.underlying25 rfl zlTx_info (.int .i64 2) rfl rfl rfl ⟨rfl, hU.out.below HA1.out.1 (Nat.le_succ _)⟩
    · have hdw : decide (0 ≤ who ∧ who ≤ 63) = false := decide_eq_false hwho
      have hq2 : Hid (q = 20) := show _ = _ by rw [HQ.out, TX.handChk, if_pos HCK.out, if_neg (by omega)]
      have hr2 : Hid (r = TX.zero) := show _ = _ by rw [HRS.out, TX.handRes, ← HQ.out, if_neg (by rw [hq2.out]; decide)]
      clear hwho
      go_enter Tryd.func26, Tryd.ntmps26
      go_wp2_with (with_reducible refine wpList_load_rows rfl 25 (.tmp 2) rfl w.heap.size 0 t.cells t.cells 25 (0, 0) _ rfl hg0 id_at Tryd.underlying25 rfl (tx_info HT.out) ?_)
      refine (rbody_any t _ HT.out).mono ?_
      rintro e w1 ⟨rfl, hb1⟩
      rw [← HK.out, ← HBS.out]
      have HA1 := Lib.hid (bw_call HA0.out.1 hb1)
      have hz1 := (hb1.block _ (block_lt HZ0.out)).trans HZ0.out
      clear hb1 hg0
      go_wp2_with fail
      refine (within_any who 63 _).mono ?_
      rintro e w2 ⟨rfl, rfl⟩
      rw [hdw]
      go_wp2_with (first
        | (with_reducible refine wpList_build rfl 25 [] rfl [] (.agg zlTx.toArray) rfl (tx_build0 _) ?_)
        | ((with_reducible refine wpList_store_whole rfl 25 (.tmp 4) (.tmp 22) rfl (w.heap.size + 1) zlTx zlTx 25 rfl rfl hz1 rfl zlTx_info zlTx_one ?_); intro w2 hU))
      rw [hr2.out, hq2.out]
      exact post_cell_tmp 4 5 25 rfl (w.heap.size + 1) _ zlTx _ _ hU.out.at_ Tryd.underlying25 rfl zlTx_info (.int .i64 20) rfl rfl rfl ⟨rfl, hU.out.below HA1.out (Nat.le_succ _)⟩
  · have hkb : (k != 0) = true := by simpa using hk0
    have hq2 : Hid (q = k) := show _ = _ by rw [HQ.out, TX.handChk, if_neg (by rw [← HK.out]; exact hk0), HK.out]
    have hr2 : Hid (r = TX.zero) := show _ = _ by rw [HRS.out, TX.handRes, ← HQ.out, if_neg (by rw [hq2.out]; exact hk0)]
    clear hk
    go_enter Tryd.func26, Tryd.ntmps26
    go_wp2_with (with_reducible refine wpList_load_rows rfl 25 (.tmp 2) rfl w.heap.size 0 t.cells t.cells 25 (0, 0) _ rfl hg0 id_at Tryd.underlying25 rfl (tx_info HT.out) ?_)
    refine (rbody_any t _ HT.out).mono ?_
    rintro e w1 ⟨rfl, hb1⟩
    rw [← HK.out]
    have hz1 := (hb1.block _ (block_lt HZ0.out)).trans HZ0.out
    have HB1 := Lib.hid (bw_call HA0.out.1 hb1)
    clear hb1
    go_wp2_with (first
      | (with_reducible refine wpList_build rfl 25 [] rfl [] (.agg zlTx.toArray) rfl (tx_build0 _) ?_)
      | ((with_reducible refine wpList_store_whole rfl 25 (.tmp 4) (.tmp 17) rfl (w.heap.size + 1) zlTx zlTx 25 rfl rfl hz1 rfl zlTx_info zlTx_one ?_); intro w2 hU))
    rw [hr2.out, hq2.out]
    exact post_cell_tmp 4 5 25 rfl (w.heap.size + 1) _ zlTx _ _ hU.out.at_ Tryd.underlying25 rfl zlTx_info (.int .i64 k) rfl rfl rfl ⟨rfl, hU.out.below HB1.out (Nat.le_succ _)⟩
end Go.Proofs.YtckfdmkjeocadaaDoor
