/- tx.Name, the reference's Name: what the calls do (printed by mkname.py). -/
import Derived.Test.YtckfdmkjeocadaaDoorRText
import Derived.Test.YtckfdmkjeocadaaDoorAwake04
namespace Go.Proofs.YtckfdmkjeocadaaDoor
open Go.RowKit
set_option maxHeartbeats 1000000
set_option maxRecDepth 4000
theorem nameRes_length (t : TX) : t.nameRes.length = 32 := by
  unfold TX.nameRes
  split
  · exact sha_length _
  · exact z32_length
theorem name_any (t : TX) (w : World) (ht : t.wf) (hR : RoundsAt w) :
    Calls Tryd.prog 19 #[.agg t.cells.toArray] w fun e w' => e = .returned (.tuple #[.agg (u8s t.nameRes).toArray, .int .i64 t.chk]) ∧ Below w.heap.size w w' := by
  have HT := Lib.hid ht
  have HR := Lib.hid hR
  have hA0 := TxAt.start w t
  have hA01 : TxAt w ((w.alloc (.cells t.cells.toArray 25)).alloc (.cells zl32.toArray 23)) t := hA0.below (bw_alloc (Below.refl _ _) _) (by simp) (bw_alloc hA0.1 _)
  have hg0 := hA01.2
  have hz0 : ((w.alloc (.cells t.cells.toArray 25)).alloc (.cells zl32.toArray 23)).heap[w.heap.size + 1]? = some (.cells (u8s z32).toArray 23 (0, 0)) := by rw [zl32_eq]; exact heap_alloc2_new w _ _
  have HA0 := Lib.hid hA01
  have HZ0 := Lib.hid hz0
  clear hA0 hA01 ht hz0
  obtain ⟨k, hk⟩ : ∃ k, k = t.chk := ⟨_, rfl⟩
  obtain ⟨r, hr⟩ : ∃ r, r = t.nameRes := ⟨_, rfl⟩
  obtain ⟨b, hb⟩ : ∃ b, b = t.textS := ⟨_, rfl⟩
  have HRL : Hid (r.length = 32) := show _ = _ by rw [hr]; exact nameRes_length t
  have HK := Lib.hid hk
  have HRS := Lib.hid hr
  have HBS := Lib.hid hb
  rw [← hr, ← hk]
  clear hb hr
  by_cases hk0 : k = 0
  · subst hk0
    have hck : t.chk = 0 := hk.symm
    have HCK := Lib.hid hck
    have hr2 : Hid (r = sha b.data.toList) := show _ = _ by rw [HRS.out, TX.nameRes, if_pos hck, HBS.out, TX.textS, if_pos hck]; rfl
    have HSZ : Hid (b.size ≤ 600) := show _ ≤ _ by rw [HBS.out]; exact textS_size t HT.out
    clear hk hck
    go_enter Tryd.func19, Tryd.ntmps19
    go_wp2_with (with_reducible refine wpList_load_rows rfl 25 (.tmp 1) rfl w.heap.size 0 t.cells t.cells 25 (0, 0) _ rfl hg0 id_at Tryd.underlying25 rfl (tx_info HT.out) ?_)
    refine (ttext_any t _ HT.out).mono ?_
    rintro e w1 ⟨rfl, hb1⟩
    rw [← HK.out, ← HBS.out]
    have HB1 := Lib.hid (bw_call HA0.out.1 hb1)
    have hz1 := (hb1.block _ (block_lt HZ0.out)).trans HZ0.out
    clear hb1 hg0
    go_wp2_with fail
    refine (sum_any b _ (Nat.le_trans HSZ.out (by decide)) (HR.out.below HB1.out HR.out.1)).mono ?_
    rintro e w2 ⟨rfl, hb2⟩
    rw [← hr2.out]
    have hz2 := (hb2.block _ (block_lt hz1)).trans hz1
    have HB2 := Lib.hid (bw_call HB1.out hb2)
    clear hb2 hz1
    go_wp2_with ((with_reducible refine wpList_store_whole rfl 23 (.tmp 2) (.tmp 16) rfl (w.heap.size + 1) (u8s r) (u8s z32) 23 rfl rfl hz2 (by rw [u8s_length, u8s_length, HRL.out, z32_length]) (hash_info HRL.out) (u8s_one _) ?_); intro w3 hU)
    exact post_cell_tmp 2 3 23 rfl (w.heap.size + 1) _ (u8s r) _ _ hU.out.at_ Tryd.underlying23 rfl (hash_info HRL.out) (.int .i64 0) rfl rfl rfl ⟨rfl, hU.out.below HB2.out (Nat.le_succ _)⟩
  · have hkb : (k != 0) = true := by simpa using hk0
    have hr2 : Hid (r = z32) := show _ = _ by rw [HRS.out, TX.nameRes, if_neg (by rw [← HK.out]; exact hk0)]
    clear hk
    go_enter Tryd.func19, Tryd.ntmps19
    go_wp2_with (with_reducible refine wpList_load_rows rfl 25 (.tmp 1) rfl w.heap.size 0 t.cells t.cells 25 (0, 0) _ rfl hg0 id_at Tryd.underlying25 rfl (tx_info HT.out) ?_)
    refine (ttext_any t _ HT.out).mono ?_
    rintro e w1 ⟨rfl, hb1⟩
    rw [← HK.out]
    have HB1 := Lib.hid (bw_call HA0.out.1 hb1)
    have hz1 := (hb1.block _ (block_lt HZ0.out)).trans HZ0.out
    clear hb1 hg0
    go_wp2_with ((with_reducible refine wpList_store_whole rfl 23 (.tmp 2) (.tmp 13) rfl (w.heap.size + 1) zl32 (u8s z32) 23 rfl rfl hz1 (by rw [zl32_length, u8s_length, z32_length]) (by rw [zl32_eq]; exact hash_info z32_length) zl32_one ?_); intro w3 hU)
    rw [hr2.out]
    exact post_cell_tmp 2 3 23 rfl (w.heap.size + 1) _ zl32 _ _ hU.out.at_ Tryd.underlying23 rfl (by rw [zl32_eq]; exact hash_info z32_length) (.int .i64 k) rfl rfl rfl ⟨by rw [zl32_eq], hU.out.below HB1.out (Nat.le_succ _)⟩
theorem rname_any (t : TX) (w : World) (ht : t.wf) :
    Calls Tryd.prog 20 #[.agg t.cells.toArray] w fun e w' => e = .returned (.tuple #[.agg (u8s t.nameRes).toArray, .int .i64 t.chk]) ∧ Below w.heap.size w w' := by
  have HT := Lib.hid ht
  have hA0 := TxAt.start w t
  have hA01 : TxAt w ((w.alloc (.cells t.cells.toArray 25)).alloc (.cells zl32.toArray 23)) t := hA0.below (bw_alloc (Below.refl _ _) _) (by simp) (bw_alloc hA0.1 _)
  have hg0 := hA01.2
  have hz0 : ((w.alloc (.cells t.cells.toArray 25)).alloc (.cells zl32.toArray 23)).heap[w.heap.size + 1]? = some (.cells (u8s z32).toArray 23 (0, 0)) := by rw [zl32_eq]; exact heap_alloc2_new w _ _
  have HA0 := Lib.hid hA01
  have HZ0 := Lib.hid hz0
  clear hA0 hA01 ht hz0
  obtain ⟨k, hk⟩ : ∃ k, k = t.chk := ⟨_, rfl⟩
  obtain ⟨r, hr⟩ : ∃ r, r = t.nameRes := ⟨_, rfl⟩
  obtain ⟨b, hb⟩ : ∃ b, b = t.textS := ⟨_, rfl⟩
  have HRL : Hid (r.length = 32) := show _ = _ by rw [hr]; exact nameRes_length t
  have HK := Lib.hid hk
  have HRS := Lib.hid hr
  have HBS := Lib.hid hb
  rw [← hr, ← hk]
  clear hb hr
  by_cases hk0 : k = 0
  · subst hk0
    have hck : t.chk = 0 := hk.symm
    have HCK := Lib.hid hck
    have hr2 : Hid (r = sha b.data.toList) := show _ = _ by rw [HRS.out, TX.nameRes, if_pos hck, HBS.out, TX.textS, if_pos hck]; rfl
    have HSZ : Hid (b.size ≤ 600) := show _ ≤ _ by rw [HBS.out]; exact textS_size t HT.out
    clear hk hck
    go_enter Tryd.func20, Tryd.ntmps20
    go_wp2_with (with_reducible refine wpList_load_rows rfl 25 (.tmp 1) rfl w.heap.size 0 t.cells t.cells 25 (0, 0) _ rfl hg0 id_at Tryd.underlying25 rfl (tx_info HT.out) ?_)
    refine (rtextS_any t _ HT.out).mono ?_
    rintro e w1 ⟨rfl, hb1⟩
    rw [← HK.out, ← HBS.out]
    have HB1 := Lib.hid (bw_call HA0.out.1 hb1)
    have hz1 := (hb1.block _ (block_lt HZ0.out)).trans HZ0.out
    clear hb1 hg0
    go_wp2_with fail
    refine (rsum_any b _ (Nat.le_trans HSZ.out (by decide))).mono ?_
    rintro e w2 ⟨rfl, hb2⟩
    rw [← hr2.out]
    have hz2 := (hb2.block _ (block_lt hz1)).trans hz1
    have HB2 := Lib.hid (bw_call HB1.out hb2)
    clear hb2 hz1
    go_wp2_with ((with_reducible refine wpList_store_whole rfl 23 (.tmp 2) (.tmp 16) rfl (w.heap.size + 1) (u8s r) (u8s z32) 23 rfl rfl hz2 (by rw [u8s_length, u8s_length, HRL.out, z32_length]) (hash_info HRL.out) (u8s_one _) ?_); intro w3 hU)
    exact post_cell_tmp 2 3 23 rfl (w.heap.size + 1) _ (u8s r) _ _ hU.out.at_ Tryd.underlying23 rfl (hash_info HRL.out) (.int .i64 0) rfl rfl rfl ⟨rfl, hU.out.below HB2.out (Nat.le_succ _)⟩
  · have hkb : (k != 0) = true := by simpa using hk0
    have hr2 : Hid (r = z32) := show _ = _ by rw [HRS.out, TX.nameRes, if_neg (by rw [← HK.out]; exact hk0)]
    clear hk
    go_enter Tryd.func20, Tryd.ntmps20
    go_wp2_with (with_reducible refine wpList_load_rows rfl 25 (.tmp 1) rfl w.heap.size 0 t.cells t.cells 25 (0, 0) _ rfl hg0 id_at Tryd.underlying25 rfl (tx_info HT.out) ?_)
    refine (rtextS_any t _ HT.out).mono ?_
    rintro e w1 ⟨rfl, hb1⟩
    rw [← HK.out]
    have HB1 := Lib.hid (bw_call HA0.out.1 hb1)
    have hz1 := (hb1.block _ (block_lt HZ0.out)).trans HZ0.out
    clear hb1 hg0
    go_wp2_with ((with_reducible refine wpList_store_whole rfl 23 (.tmp 2) (.tmp 13) rfl (w.heap.size + 1) zl32 (u8s z32) 23 rfl rfl hz1 (by rw [zl32_length, u8s_length, z32_length]) (by rw [zl32_eq]; exact hash_info z32_length) zl32_one ?_); intro w3 hU)
    rw [hr2.out]
    exact post_cell_tmp 2 3 23 rfl (w.heap.size + 1) _ zl32 _ _ hU.out.at_ Tryd.underlying23 rfl (by rw [zl32_eq]; exact hash_info z32_length) (.int .i64 k) rfl rfl rfl ⟨by rw [zl32_eq], hU.out.below HB1.out (Nat.le_succ _)⟩
end Go.Proofs.YtckfdmkjeocadaaDoor
