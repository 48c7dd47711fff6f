/- cavalcadelaw04.TxBack: what the call does (printed by mkback.py). -/
import Derived.Test.YtckfdmkjeocadaaDoorAwake04
namespace Go.Proofs.YtckfdmkjeocadaaDoor
open Go.RowKit
set_option maxHeartbeats 2000000
set_option maxRecDepth 4000
theorem TX.chk_err (t : TX) (h : t.chk ≠ 0) : (t.chk != 0) = true := by simpa using h
theorem rdNum_err {s : ByteArray} {e : Int} (h : rdNum s = .error e) : e = 5 ∨ e = 6 := by
  unfold rdNum at h
  split at h
  · rename_i hn
    simp at h
    subst h
    exact rdN_err hn
  · split at h
    · simp at h
    · simp at h
      omega
theorem rdNums_err : ∀ (xs : List ByteArray) (k : Nat) (t : TX) (e : Int), rdNums k xs t = .error e → e = 5 ∨ e = 6
  | [], k, t, e, h => by simp [rdNums] at h
  | x :: xs, k, t, e, h => by
    rw [rdNums] at h
    split at h
    · exact rdNums_err xs _ _ _ h
    · split at h
      · rename_i hx
        simp at h
        subst h
        exact rdNum_err hx
      · exact rdNums_err xs _ _ _ h
theorem rdEnd_err {t : TX} {e : Int} (h : rdEnd t = .error e) : (e != 0) = true := by
  unfold rdEnd at h
  split at h
  · simp at h
  · rename_i hc
    injection h with h
    subst h
    simpa using hc
theorem rdParts_err {x y : ByteArray} {z : Option ByteArray} {e : Int} (h : rdParts x y z = .error e) : (e != 0) = true := by
  unfold rdParts at h
  split at h
  · rename_i hx
    injection h with h
    subst h
    exact rdAll_err hx
  · rename_i b hb
    by_cases hq : b.length ≠ (if z.isSome = true then 7 else 5)
    · rw [if_pos hq] at h
      injection h with h
      subst h
      rfl
    · rw [if_neg hq] at h
      unfold rdBody at h
      split at h
      · rename_i hn
        injection h with h
        subst h
        exact ne0_of (rdNums_err _ _ _ _ hn)
      · exact rdEnd_err h
theorem rdTx_err {s : ByteArray} {e : Int} (h : rdTx s = .error e) : (e != 0) = true := by
  unfold rdTx at h
  split at h
  · rename_i hx
    injection h with h
    subst h
    exact rdAll_err hx
  · split at h
    · exact rdParts_err h
    · injection h with h
      subst h
      rfl
  · split at h
    · exact rdParts_err h
    · injection h with h
      subst h
      rfl
  · injection h with h
    subst h
    rfl
theorem back_any (t : TX) (s : ByteArray) (w : World) (ht : t.wf) (hs : s.size ≤ 140737488355328) (hR : RoundsAt w) :
    Calls Tryd.prog 3 #[.agg t.cells.toArray, .string s] w fun e w' => e = .returned (.bool true) ∧ Below w.heap.size w w' := by
  have HT := Lib.hid ht
  have HR := Lib.hid hR
  have hA0 := TxAt.start w t
  have hg0 := hA0.2
  have HA0 := Lib.hid hA0
  have hlt : w.heap.size < (w.alloc (.cells t.cells.toArray 25)).heap.size := by simp
  have HLEN : Hid (t.cells.length = zlTx.length) := show _ = _ from t.cells_length HT.out.by_ HT.out.tag
  clear hA0 ht hR
  obtain ⟨k, hk⟩ : ∃ k, k = t.chk := ⟨_, rfl⟩
  have HK := Lib.hid hk
  by_cases hk0 : k = 0
  · subst hk0
    have HRT : Hid (rdTx t.textS = .ok t) := show _ = _ by rw [TX.textS, if_pos hk.symm]; exact tx_there HT.out hk.symm
    clear hk
    go_enter Tryd.func3, Tryd.ntmps3
    go_wp2_with (with_reducible refine wpList_load_rows rfl 25 (.tmp 2) rfl w.heap.size 0 t.cells t.cells 25 (0, 0) _ rfl hg0 id_at Tryd.underlying25 rfl (tx_info HT.out) ?_)
    refine (ttext_any t _ HT.out).mono ?_
    rintro e w1 ⟨rfl, hb1⟩
    rw [← HK.out]
    have hA1 := HA0.out.below hb1 hlt (bw_call HA0.out.1 hb1)
    have HA1 := Lib.hid hA1
    clear hA1 hb1
    go_wp2_with fail
    refine (awake_any _ (HR.out.below HA1.out.1 HR.out.1)).mono ?_
    rintro e w2 ⟨rfl, hb2⟩
    have hA2 := HA1.out.below hb2 (block_lt HA1.out.2) (bw_call HA1.out.1 hb2)
    have HA2 := Lib.hid hA2
    clear hA2 hb2
    go_wp2_with fail
    refine (read_any t.textS _ (Nat.le_trans (textS_size t HT.out) (by decide))).mono ?_
    rintro e w3 ⟨rfl, hb3⟩
    rw [HRT.out]
    simp only [txOf, errOf]
    have hA3 := HA2.out.below hb3 (block_lt HA2.out.2) (bw_call HA2.out.1 hb3)
    have hA4 := hA3.below (bw_alloc (Below.refl _ _) (.cells Tryd.zeroCells25 25)) (block_lt hA3.2) (bw_alloc hA3.1 (.cells Tryd.zeroCells25 25))
    have hz4 : (w3.alloc (.cells Tryd.zeroCells25 25)).heap[w3.heap.size]? = some (.cells zlTx.toArray 25 (0, 0)) := heap_alloc_new w3 _
    have hne : w.heap.size ≠ w3.heap.size := Nat.ne_of_lt (block_lt hA3.2)
    have hle := hA3.1.size
    have HA4 := Lib.hid hA4
    clear hA3 hA4 hb3 hg0
    go_wp2_with (first
      | ((with_reducible refine wpList_store_whole rfl 25 (.tmp 7) (.tmp 25) rfl w3.heap.size t.cells zlTx 25 rfl rfl hz4 HLEN.out (tx_info HT.out) (start_one _) ?_); intro w5 hU5; have hT5 := hU5.out.at_; have hT6 := (hU5.out.other _ hne).trans HA4.out.2; have HB5 := Lib.hid (hU5.out.below HA4.out.1 hle); clear hz4)
      | (with_reducible refine wpList_load_rows_g (by kernel_rfl) 25 (.tmp 7) rfl w3.heap.size 0 t.cells t.cells 25 (0, 0) _ rfl hT5 id_at Tryd.underlying25 rfl (tx_info HT.out) ?_)
      | (with_reducible refine wpList_load_rows_g (by kernel_rfl) 25 (.tmp 2) rfl w.heap.size 0 t.cells t.cells 25 (0, 0) _ rfl hT6 id_at Tryd.underlying25 rfl (tx_info HT.out) ?_)
      | ((with_reducible refine wpList_bin_g (by kernel_rfl) .neq 25 25 (.tmp 30) (.tmp 31) rfl (.agg t.cells.toArray) (.agg t.cells.toArray) (.bool !(decide (t = t))) rfl rfl (tx_eqG _ _ _ _ _ _) (tx_neq HT.out HT.out _) ?_); rw [decide_eq_true (rfl : t = t)]))
    cases hr : rdTx s with
    | error x =>
      have hx0 : (x != 0) = true := rdTx_err hr
      have HRD := Lib.hid hr
      clear hr
      refine (read_any s _ hs).mono ?_
      rintro e v1 ⟨rfl, hv1⟩
      rw [HRD.out]
      simp only [txOf, errOf]
      have hy1 : (v1.alloc (.cells Tryd.zeroCells25 25)).heap[v1.heap.size]? = some (.cells zlTx.toArray 25 (0, 0)) := heap_alloc_new v1 _
      have HV1 := Lib.hid (bw_alloc (bw_call HB5.out hv1) (.cells Tryd.zeroCells25 25))
      have hlv := (bw_call HB5.out hv1).size
      clear hv1
      go_wp2_with (first
        | ((with_reducible refine wpList_store_whole rfl 25 (.tmp 9) (.tmp 37) rfl v1.heap.size TX.zero.cells zlTx 25 rfl rfl hy1 rfl (tx_info TX.zero_wf) (start_one _) ?_); intro v2 hV2; have hy2 := hV2.out.at_; have HV2 := Lib.hid (hV2.out.below HV1.out hlv); clear hy1)
        | (with_reducible refine wpList_load_rows rfl 25 (.tmp 9) rfl v1.heap.size 0 TX.zero.cells TX.zero.cells 25 (0, 0) _ rfl hy2 id_at Tryd.underlying25 rfl (tx_info TX.zero_wf) ?_)
        | (with_reducible refine wpList_build rfl 25 [] rfl [] (.agg TX.zero.cells.toArray) rfl (tx_build0 _) ?_)
        | ((with_reducible refine wpList_bin_g (by kernel_rfl) .eql 25 25 (.tmp 41) (.tmp 42) rfl (.agg TX.zero.cells.toArray) (.agg TX.zero.cells.toArray) (.bool (decide (TX.zero = TX.zero))) rfl rfl (tx_eqG _ _ _ _ _ _) (tx_eql TX.zero_wf TX.zero_wf _) ?_); rw [decide_eq_true (rfl : TX.zero = TX.zero)]))
      go_ret
      exact ⟨rfl, HV2.out⟩
    | ok u =>
      obtain ⟨huw, huc, hus⟩ := tx_back hr
      have HUW := Lib.hid huw
      have HUC := Lib.hid huc
      have HRD := Lib.hid hr
      have HUT : Hid (u.textS = s) := show _ = _ by rw [TX.textS, if_pos huc, ← hus]
      clear hr huw huc hus
      refine (read_any s _ hs).mono ?_
      rintro e v1 ⟨rfl, hv1⟩
      rw [HRD.out]
      simp only [txOf, errOf]
      have hy1 : (v1.alloc (.cells Tryd.zeroCells25 25)).heap[v1.heap.size]? = some (.cells zlTx.toArray 25 (0, 0)) := heap_alloc_new v1 _
      have HV1 := Lib.hid (bw_alloc (bw_call HB5.out hv1) (.cells Tryd.zeroCells25 25))
      have hlv := (bw_call HB5.out hv1).size
      have HULEN : Hid (u.cells.length = zlTx.length) := show _ = _ from u.cells_length HUW.out.by_ HUW.out.tag
      clear hv1
      go_wp2_with (first
        | ((with_reducible refine wpList_store_whole rfl 25 (.tmp 9) (.tmp 37) rfl v1.heap.size u.cells zlTx 25 rfl rfl hy1 HULEN.out (tx_info HUW.out) (start_one _) ?_); intro v2 hV2; have hy2 := hV2.out.at_; have HV2 := Lib.hid (hV2.out.below HV1.out hlv); clear hy1)
        | (with_reducible refine wpList_load_rows rfl 25 (.tmp 9) rfl v1.heap.size 0 u.cells u.cells 25 (0, 0) _ rfl hy2 id_at Tryd.underlying25 rfl (tx_info HUW.out) ?_))
      refine (ttext_any u _ HUW.out).mono ?_
      rintro e v3 ⟨rfl, hv3⟩
      rw [HUC.out, HUT.out]
      have HV3 := Lib.hid (bw_call HV2.out hv3)
      clear hv3
      go_wp2_with fail
      go_ret
      exact ⟨by simp, HV3.out⟩
  · have hk1 : (k == 0) = false := by simpa using hk0
    clear hk
    go_enter Tryd.func3, Tryd.ntmps3
    go_wp2_with (with_reducible refine wpList_load_rows rfl 25 (.tmp 2) rfl w.heap.size 0 t.cells t.cells 25 (0, 0) _ rfl hg0 id_at Tryd.underlying25 rfl (tx_info HT.out) ?_)
    refine (ttext_any t _ HT.out).mono ?_
    rintro e w1 ⟨rfl, hb1⟩
    rw [← HK.out]
    have HB1 := Lib.hid (bw_call HA0.out.1 hb1)
    clear hb1
    go_wp2_with fail
    refine (awake_any _ (HR.out.below HB1.out HR.out.1)).mono ?_
    rintro e w2 ⟨rfl, hb2⟩
    have HB2 := Lib.hid (bw_call HB1.out hb2)
    clear hb2
    go_wp2_with fail
    cases hr : rdTx s with
    | error x =>
      have hx0 : (x != 0) = true := rdTx_err hr
      have HRD := Lib.hid hr
      clear hr
      refine (read_any s _ hs).mono ?_
      rintro e v1 ⟨rfl, hv1⟩
      rw [HRD.out]
      simp only [txOf, errOf]
      have hy1 : (v1.alloc (.cells Tryd.zeroCells25 25)).heap[v1.heap.size]? = some (.cells zlTx.toArray 25 (0, 0)) := heap_alloc_new v1 _
      have HV1 := Lib.hid (bw_alloc (bw_call HB2.out hv1) (.cells Tryd.zeroCells25 25))
      have hlv := (bw_call HB2.out hv1).size
      clear hv1
      go_wp2_with (first
        | ((with_reducible refine wpList_store_whole rfl 25 (.tmp 9) (.tmp 37) rfl v1.heap.size TX.zero.cells zlTx 25 rfl rfl hy1 rfl (tx_info TX.zero_wf) (start_one _) ?_); intro v2 hV2; have hy2 := hV2.out.at_; have HV2 := Lib.hid (hV2.out.below HV1.out hlv); clear hy1)
        | (with_reducible refine wpList_load_rows rfl 25 (.tmp 9) rfl v1.heap.size 0 TX.zero.cells TX.zero.cells 25 (0, 0) _ rfl hy2 id_at Tryd.underlying25 rfl (tx_info TX.zero_wf) ?_)
        | (with_reducible refine wpList_build rfl 25 [] rfl [] (.agg TX.zero.cells.toArray) rfl (tx_build0 _) ?_)
        | ((with_reducible refine wpList_bin_g (by kernel_rfl) .eql 25 25 (.tmp 41) (.tmp 42) rfl (.agg TX.zero.cells.toArray) (.agg TX.zero.cells.toArray) (.bool (decide (TX.zero = TX.zero))) rfl rfl (tx_eqG _ _ _ _ _ _) (tx_eql TX.zero_wf TX.zero_wf _) ?_); rw [decide_eq_true (rfl : TX.zero = TX.zero)]))
      go_ret
      exact ⟨rfl, HV2.out⟩
    | ok u =>
      obtain ⟨huw, huc, hus⟩ := tx_back hr
      have HUW := Lib.hid huw
      have HUC := Lib.hid huc
      have HRD := Lib.hid hr
      have HUT : Hid (u.textS = s) := show _ = _ by rw [TX.textS, if_pos huc, ← hus]
      clear hr huw huc hus
      refine (read_any s _ hs).mono ?_
      rintro e v1 ⟨rfl, hv1⟩
      rw [HRD.out]
      simp only [txOf, errOf]
      have hy1 : (v1.alloc (.cells Tryd.zeroCells25 25)).heap[v1.heap.size]? = some (.cells zlTx.toArray 25 (0, 0)) := heap_alloc_new v1 _
      have HV1 := Lib.hid (bw_alloc (bw_call HB2.out hv1) (.cells Tryd.zeroCells25 25))
      have hlv := (bw_call HB2.out hv1).size
      have HULEN : Hid (u.cells.length = zlTx.length) := show _ = _ from u.cells_length HUW.out.by_ HUW.out.tag
      clear hv1
      go_wp2_with (first
        | ((with_reducible refine wpList_store_whole rfl 25 (.tmp 9) (.tmp 37) rfl v1.heap.size u.cells zlTx 25 rfl rfl hy1 HULEN.out (tx_info HUW.out) (start_one _) ?_); intro v2 hV2; have hy2 := hV2.out.at_; have HV2 := Lib.hid (hV2.out.below HV1.out hlv); clear hy1)
        | (with_reducible refine wpList_load_rows rfl 25 (.tmp 9) rfl v1.heap.size 0 u.cells u.cells 25 (0, 0) _ rfl hy2 id_at Tryd.underlying25 rfl (tx_info HUW.out) ?_))
      refine (ttext_any u _ HUW.out).mono ?_
      rintro e v3 ⟨rfl, hv3⟩
      rw [HUC.out, HUT.out]
      have HV3 := Lib.hid (bw_call HV2.out hv3)
      clear hv3
      go_wp2_with fail
      go_ret
      exact ⟨by simp, HV3.out⟩
end Go.Proofs.YtckfdmkjeocadaaDoor
