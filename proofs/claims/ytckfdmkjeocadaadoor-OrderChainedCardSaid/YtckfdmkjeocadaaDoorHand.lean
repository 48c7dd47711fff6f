/- tx.Hand, tx.Name: what the calls do. -/
import Derived.Test.YtckfdmkjeocadaaDoorSigned
namespace Go.Proofs.YtckfdmkjeocadaaDoor
open Go.RowKit
set_option maxHeartbeats 1000000
set_option maxRecDepth 4000
def TX.laneNow (t : TX) (who : Int) : List UInt8 := tagOf who.toNat 2 t.body
def TX.handChk (t : TX) (who : Int) : Int := if t.chk = 0 then if 0 ≤ who ∧ who < 64 then if t.lane = true then 0 else 2 else 20 else t.chk
def TX.handRes (t : TX) (who : Int) : TX := if t.handChk who = 0 then setBy t (t.laneNow who) else TX.zero
theorem lby_wf {t : TX} (h : t.wf) {l : List UInt8} (hl : l.length = 32) : (setBy t l).wf := ⟨h.frm, h.nonce, h.fee, h.to_, h.data, h.round, h.turn, hl, h.tag⟩
theorem lby_cells {t : TX} (h : t.wf) {l : List UInt8} (hl : l.length = 32) : splice t.cells 8 (u8s l) = (setBy t l).cells := by
  have h1 : (u8s l).length = 32 := by rw [u8s_length]; exact hl
  have h2 : (u8s t.by_).length = 32 := by rw [u8s_length]; exact h.by_
  have h3 : (u8s t.tag).length = 32 := by rw [u8s_length]; exact h.tag
  unfold splice
  rw [h1]
  simp [TX.cells, setBy, h2]
theorem lby_fits {t : TX} (h : t.wf) {l : List UInt8} (hl : l.length = 32) : 8 + (u8s l).length ≤ t.cells.length := by
  rw [TX.cells_length t h.by_ h.tag, u8s_length]
  omega
theorem hand_any (t : TX) (who : Int) (w : World) (ht : t.wf) (hR : RoundsAt w) :
    Calls Tryd.prog 25 #[.agg t.cells.toArray, .int .i64 who] w fun e w' => e = .returned (.tuple #[.agg (t.handRes who).cells.toArray, .int .i64 (t.handChk who)]) ∧ Below w.heap.size w w' := by
  have HT := Lib.hid ht
  have HR := Lib.hid hR
  have hA0 := TxAt.start w t
  have hA01 : TxAt w ((w.alloc (.cells t.cells.toArray 25)).alloc (.cells Tryd.zeroCells25 25)) t := hA0.below (bw_alloc (Below.refl _ _) _) (by simp) (bw_alloc hA0.1 _)
  have hg0 := hA01.2
  have hz0 : ((w.alloc (.cells t.cells.toArray 25)).alloc (.cells Tryd.zeroCells25 25)).heap[w.heap.size + 1]? = some (.cells zlTx.toArray 25 (0, 0)) := heap_alloc2_new w _ _
  have HA0 := Lib.hid hA01
  have HZ0 := Lib.hid hz0
  clear hA0 hA01 ht hR
  obtain ⟨k, hk⟩ : ∃ k, k = t.chk := ⟨_, rfl⟩
  obtain ⟨r, hr⟩ : ∃ r, r = t.handRes who := ⟨_, rfl⟩
  obtain ⟨q, hq⟩ : ∃ q, q = t.handChk who := ⟨_, rfl⟩
  obtain ⟨b, hb⟩ : ∃ b, b = t.bodyS := ⟨_, rfl⟩
  have HK := Lib.hid hk
  have HRS := Lib.hid hr
  have HQ := Lib.hid hq
  have HBS := Lib.hid hb
  rw [← hr, ← hq]
  clear hb hr hz0 hq
  have hlt : w.heap.size < ((w.alloc (.cells t.cells.toArray 25)).alloc (.cells Tryd.zeroCells25 25)).heap.size := by simp; omega
  by_cases hk0 : k = 0
  · subst hk0
    have hck : t.chk = 0 := hk.symm
    have HCK := Lib.hid hck
    clear hk hck
    by_cases hwho : 0 ≤ who ∧ who < 64
    · obtain ⟨hw1, hw2⟩ := hwho
      have hg1 : decide (who < 0) = false := decide_eq_false (by omega)
      have hg2 : decide (64 ≤ who) = false := decide_eq_false (by omega)
      cases hln : t.lane with
      | true =>
        have hq2 : Hid (q = 0) := show _ = _ by rw [HQ.out, TX.handChk, if_pos HCK.out, if_pos ⟨hw1, hw2⟩, if_pos hln]
        have hr2 : Hid (r = setBy t (t.laneNow who)) := show _ = _ by rw [HRS.out, TX.handRes, ← HQ.out, if_pos hq2.out]
        have HLN := Lib.hid hln
        have h5 : t.cells[5]? = some (.bool true) := by rw [← HLN.out]; rfl
        clear hln
        go_enter Tryd.func25, Tryd.ntmps25
        go_wp2_with (with_reducible refine wpList_load_rows rfl 25 (.tmp 2) rfl w.heap.size 0 t.cells t.cells 25 (0, 0) _ rfl hg0 id_at Tryd.underlying25 rfl (tx_info HT.out) ?_)
        refine (body_any t _ HT.out).mono ?_
        rintro e w1 ⟨rfl, hb1⟩
        rw [← HK.out, ← HBS.out]
        have hA1 := HA0.out.below hb1 hlt (bw_call HA0.out.1 hb1)
        have hc0 := hA1.cell 5 _ h5
        have HA1 := Lib.hid hA1
        have HZ1 := Lib.hid ((hb1.block _ (block_lt HZ0.out)).trans HZ0.out)
        clear hA1 hb1 hg0
        go_wp2_with fail
        have hbo := bodyS_ok HCK.out
        refine (tag_ok who 2 b _ hw1 (by omega) (by decide) (by decide) (by rw [HBS.out]; exact hbo.1) (HR.out.below HA1.out.1 HR.out.1)).mono ?_
        rintro e w5 ⟨rfl, hb5⟩
        obtain ⟨g, hg⟩ : ∃ g, g = tagOf who.toNat (2 : Int).toNat b.data.toList := ⟨_, rfl⟩
        rw [← hg]
        have HGL : Hid (g.length = 32) := show _ = _ by rw [hg]; exact tagOf_length _ _ _
        have HTG : Hid (r = setBy t g) := show _ = _ by rw [hr2.out, hg, HBS.out, hbo.2]; rfl
        have hA5 := HA1.out.below hb5 (block_lt HA1.out.2) (bw_call HA1.out.1 hb5)
        have hg5 := hA5.2
        have HZ5 := Lib.hid ((hb5.block _ (block_lt HZ1.out)).trans HZ1.out)
        have HA5 := Lib.hid hA5
        have HWF := Lib.hid (lby_wf HT.out HGL.out)
        have HLEN : Hid ((setBy t g).cells.length = zlTx.length) := show _ = _ from (setBy t g).cells_length HWF.out.by_ HWF.out.tag
        clear hb5 hbo hg hA5
        go_wp2_with (first
          | ((with_reducible refine wpList_store_rows rfl 23 (.tmp 37) (.tmp 35) rfl w.heap.size 8 (u8s g) t.cells 25 rfl rfl hg5 (lby_fits HT.out HGL.out) (hash_info HGL.out) (u8s_one _) ?_); intro w6 hU6; have hT6 := hU6.out.at_; rw [lby_cells HT.out HGL.out] at hT6; have hz6 := (hU6.out.other _ (by omega)).trans HZ5.out; have HB6 := Lib.hid (hU6.out.below HA5.out.1 (Nat.le_refl _)); clear hg5)
          | (with_reducible refine wpList_load_rows rfl 25 (.tmp 2) rfl w.heap.size 0 (setBy t g).cells (setBy t g).cells 25 (0, 0) _ rfl hT6 id_at Tryd.underlying25 rfl (tx_info HWF.out) ?_)
          | ((with_reducible refine wpList_store_whole rfl 25 (.tmp 4) (.tmp 38) rfl (w.heap.size + 1) (setBy t g).cells zlTx 25 rfl rfl hz6 HLEN.out (tx_info HWF.out) (start_one _) ?_); intro w7 hU))
        rw [HTG.out, hq2.out]
        exact post_cell_tmp 4 5 25 rfl (w.heap.size + 1) _ (setBy t g).cells _ _ hU.out.at_ Tryd.underlying25 rfl (tx_info HWF.out) (.int .i64 0) rfl rfl rfl ⟨rfl, hU.out.below HB6.out (Nat.le_succ _)⟩
      | false =>
        have hq2 : Hid (q = 2) := show _ = _ by rw [HQ.out, TX.handChk, if_pos HCK.out, if_pos ⟨hw1, hw2⟩, if_neg (by rw [hln]; decide)]
        have hr2 : Hid (r = TX.zero) := show _ = _ by rw [HRS.out, TX.handRes, ← HQ.out, if_neg (by rw [hq2.out]; decide)]
        have HLN := Lib.hid hln
        have h5 : t.cells[5]? = some (.bool false) := by rw [← HLN.out]; rfl
        clear hln
        go_enter Tryd.func25, Tryd.ntmps25
        go_wp2_with (with_reducible refine wpList_load_rows rfl 25 (.tmp 2) rfl w.heap.size 0 t.cells t.cells 25 (0, 0) _ rfl hg0 id_at Tryd.underlying25 rfl (tx_info HT.out) ?_)
        refine (body_any t _ HT.out).mono ?_
        rintro e w1 ⟨rfl, hb1⟩
        rw [← HK.out, ← HBS.out]
        have hA1 := HA0.out.below hb1 hlt (bw_call HA0.out.1 hb1)
        have hc0 := hA1.cell 5 _ h5
        have HA1 := Lib.hid hA1
        have hz1 := (hb1.block _ (block_lt HZ0.out)).trans HZ0.out
        clear hA1 hb1 hg0
        go_wp2_with (first
          | (with_reducible refine wpList_build rfl 25 [] rfl [] (.agg zlTx.toArray) rfl (tx_build0 _) ?_)
          | ((with_reducible refine wpList_store_whole rfl 25 (.tmp 4) (.tmp 30) rfl (w.heap.size + 1) zlTx zlTx 25 rfl rfl hz1 rfl zlTx_info zlTx_one ?_); intro w2 hU))
        rw [hr2.out, hq2.out]
        exact post_cell_tmp 4 5 25 rfl (w.heap.size + 1) _ zlTx _ _ hU.out.at_ Tryd.underlying25 rfl zlTx_info (.int .i64 2) rfl rfl rfl ⟨rfl, hU.out.below HA1.out.1 (Nat.le_succ _)⟩
    · have hq2 : Hid (q = 20) := show _ = _ by rw [HQ.out, TX.handChk, if_pos HCK.out, if_neg hwho]
      have hr2 : Hid (r = TX.zero) := show _ = _ by rw [HRS.out, TX.handRes, ← HQ.out, if_neg (by rw [hq2.out]; decide)]
      go_enter Tryd.func25, Tryd.ntmps25
      go_wp2_with (with_reducible refine wpList_load_rows rfl 25 (.tmp 2) rfl w.heap.size 0 t.cells t.cells 25 (0, 0) _ rfl hg0 id_at Tryd.underlying25 rfl (tx_info HT.out) ?_)
      refine (body_any t _ HT.out).mono ?_
      rintro e w1 ⟨rfl, hb1⟩
      rw [← HK.out, ← HBS.out]
      have HA1 := Lib.hid (bw_call HA0.out.1 hb1)
      have hz1 := (hb1.block _ (block_lt HZ0.out)).trans HZ0.out
      clear hb1 hg0
      go_wp2_with (first
        | (with_reducible refine wpList_build rfl 25 [] rfl [] (.agg zlTx.toArray) rfl (tx_build0 _) ?_)
        | ((with_reducible refine wpList_store_whole rfl 25 (.tmp 4) (.tmp 25) rfl (w.heap.size + 1) zlTx zlTx 25 rfl rfl hz1 rfl zlTx_info zlTx_one ?_); intro w2 hU))
      all_goals
        rw [hr2.out, hq2.out]
        exact post_cell_tmp 4 5 25 rfl (w.heap.size + 1) _ zlTx _ _ hU.out.at_ Tryd.underlying25 rfl zlTx_info (.int .i64 20) rfl rfl rfl ⟨rfl, hU.out.below HA1.out (Nat.le_succ _)⟩
  · have hkb : (k != 0) = true := by simpa using hk0
    have hq2 : Hid (q = k) := show _ = _ by rw [HQ.out, TX.handChk, if_neg (by rw [← HK.out]; exact hk0), HK.out]
    have hr2 : Hid (r = TX.zero) := show _ = _ by rw [HRS.out, TX.handRes, ← HQ.out, if_neg (by rw [hq2.out]; exact hk0)]
    clear hk
    go_enter Tryd.func25, Tryd.ntmps25
    go_wp2_with (with_reducible refine wpList_load_rows rfl 25 (.tmp 2) rfl w.heap.size 0 t.cells t.cells 25 (0, 0) _ rfl hg0 id_at Tryd.underlying25 rfl (tx_info HT.out) ?_)
    refine (body_any t _ HT.out).mono ?_
    rintro e w1 ⟨rfl, hb1⟩
    rw [← HK.out]
    have hz1 := (hb1.block _ (block_lt HZ0.out)).trans HZ0.out
    have HB1 := Lib.hid (bw_call HA0.out.1 hb1)
    clear hb1
    go_wp2_with (first
      | (with_reducible refine wpList_build rfl 25 [] rfl [] (.agg zlTx.toArray) rfl (tx_build0 _) ?_)
      | ((with_reducible refine wpList_store_whole rfl 25 (.tmp 4) (.tmp 16) rfl (w.heap.size + 1) zlTx zlTx 25 rfl rfl hz1 rfl zlTx_info zlTx_one ?_); intro w2 hU))
    rw [hr2.out, hq2.out]
    exact post_cell_tmp 4 5 25 rfl (w.heap.size + 1) _ zlTx _ _ hU.out.at_ Tryd.underlying25 rfl zlTx_info (.int .i64 k) rfl rfl rfl ⟨rfl, hU.out.below HB1.out (Nat.le_succ _)⟩
def TX.nameRes (t : TX) : List UInt8 := if t.chk = 0 then sha t.text else z32
end Go.Proofs.YtckfdmkjeocadaaDoor
