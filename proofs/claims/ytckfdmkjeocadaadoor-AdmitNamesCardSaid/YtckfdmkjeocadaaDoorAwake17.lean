/- cavalcadelaw17.awake: what the call does. -/
import Derived.Test.YtckfdmkjeocadaaDoorGates
import Derived.Test.YtckfdmkjeocadaaDoorRSign
import Derived.Test.YtckfdmkjeocadaaDoorRText
namespace Go.Proofs.YtckfdmkjeocadaaDoor
open Go.RowKit
set_option maxHeartbeats 4000000
set_option maxRecDepth 4000
def tG : TX := { TX.zero with frm := 2, fee := 3 }
theorem tG_wf : tG.wf := ⟨⟨by decide, by decide⟩, i64_zero, ⟨by decide, by decide⟩, i64_zero, by decide, i64_zero, i64_zero, rfl, rfl⟩
theorem tG_chk : tG.chk = 0 := by decide
theorem tG_build (w : World) : (Instr.build 25 #[(0, .int .i64 2), (2, .int .i64 3)]).run Tryd.prog w = .ok (.agg tG.cells.toArray) w := by
  refine run_build_struct (places := #[(0, 1), (1, 1), (2, 1), (3, 1), (4, 1), (5, 1), (6, 1), (7, 1), (8, 32), (40, 32)]) w (tx_zero w) Tryd.underlying25 (by kernel_rfl) ?_
  rw [fill_cons (off := 0) (size := 1) rfl rfl (by decide), fill_cons (off := 2) (size := 1) rfl rfl (Nat.le_of_ble_eq_true rfl)]
  rfl
theorem put_at (k : List UInt8) : ((DataW.map [] : DataW Unit).put (.string k) (rowInt 1)).atKey (.string k) (.lit (.int .i64 0)) = .lit (.int .i64 1) :=
  Maps.atKey_put_same (k := Lit.string k) Maps.isMap_empty (show WideAt.IsKeyLit (Lit.string k) from trivial) (rowInt 1) _
theorem del_size (k : List UInt8) : Maps.size (((DataW.map [] : DataW Unit).put (.string k) (rowInt 1)).del (.string k)) = 0 := by
  have h : ((DataW.map [] : DataW Unit).put (.string k) (rowInt 1)) = .map [(.string k, rowInt 1)] := rfl
  rw [h]
  show Maps.size (DataW.map ([(Lit.string k, rowInt 1)].filter _)) = 0
  simp [Maps.size, Lit.sameKey]
theorem awake17_any (w : World) (hR : RoundsAt w) : Calls Tryd.prog 31 #[] w fun e w' => e = .returned (.bool true) ∧ Below w.heap.size w w' := by
  have HR := Lib.hid hR
  obtain ⟨S, hS⟩ : ∃ S, S = setTag tG tG.tagNow := ⟨_, rfl⟩
  have HSI : Hid (tG.signRes = S) := show _ = _ by rw [hS]; exact if_pos tG_chk
  have HW : Hid S.wf := show _ from by rw [hS]; exact setTag_wf tG_wf (tagOf_length _ _ _)
  have HC : Hid (S.chk = 0) := show _ from by rw [hS]; exact tG_chk
  have HSG : Hid (S.signed = 0) := show S.signed = 0 from by rw [hS, TX.signed, if_pos (show (setTag tG tG.tagNow).chk = 0 from tG_chk), errTag, if_pos (show (setTag tG tG.tagNow).tagNow = (setTag tG tG.tagNow).tag from rfl)]
  have HF : Hid (S.frm = 2 ∧ S.nonce = 0 ∧ S.fee = 3) := show _ ∧ _ from by rw [hS]; exact ⟨rfl, rfl, rfl⟩
  have HLEN : Hid (S.cells.length = zlTx.length) := show _ = _ from S.cells_length HW.out.by_ HW.out.tag
  obtain ⟨s, hs⟩ : ∃ s, s = S.textS := ⟨_, rfl⟩
  have HRD : Hid (rdTx s = .ok S) := show _ from by rw [hs, TX.textS, if_pos HC.out]; exact tx_there HW.out HC.out
  have HSZ : Hid (s.size ≤ 140737488355328) := show _ ≤ _ by rw [hs]; exact Nat.le_trans (textS_size S HW.out) (by decide)
  have HS := Lib.hid hs
  clear hR hS hs
  go_enter Tryd.func31, Tryd.ntmps31
  go_wp2_with fail
  refine (new_any 1 _ (by decide) (by decide)).mono ?_
  rintro e w1 ⟨rfl, hG1, hb1⟩
  have HG1 := Lib.hid hG1
  have HB1 := Lib.hid hb1
  obtain ⟨g, hg⟩ : ∃ g, g = w.heap.size + 1 := ⟨_, rfl⟩
  obtain ⟨mb, hmb⟩ : ∃ m, m = w.heap.size := ⟨_, rfl⟩
  rw [← hg] at HG1 ⊢
  have HG1' : Hid (GAt w1 g 1 zn64 mb 0 (.map [])) := show GAt _ _ _ _ _ _ _ from by rw [hmb]; exact HG1.out
  have hgl : w.heap.size ≤ g := by omega
  have hml : w.heap.size ≤ mb := by omega
  clear hG1 hb1 hg hmb HG1
  go_wp2_with (with_reducible refine wpList_build rfl 25 [(0, .const (.int .i64 2)), (2, .const (.int .i64 3))] rfl [(0, .int .i64 2), (2, .int .i64 3)] (.agg tG.cells.toArray) rfl (tG_build _) ?_)
  refine (rsign_any tG _ tG_wf).mono ?_
  rintro e w2 ⟨rfl, hb2⟩
  rw [HSI.out, tG_chk]
  have HG2 := Lib.hid ((HG1'.out.below hb2).below (bw_alloc (Below.refl _ _) (.cells Tryd.zeroCells25 25)))
  have HB2 := Lib.hid (bw_alloc (bw_call HB1.out hb2) (.cells Tryd.zeroCells25 25))
  have hz2 : (w2.alloc (.cells Tryd.zeroCells25 25)).heap[w2.heap.size]? = some (.cells zlTx.toArray 25 (0, 0)) := heap_alloc_new w2 _
  have hl2 := (bw_call HB1.out hb2).size
  have hlt2 := (HG1'.out.below hb2).lts
  clear hb2
  go_wp2_with (first
    | ((with_reducible refine wpList_store_whole rfl 25 (.tmp 3) (.tmp 18) rfl w2.heap.size S.cells zlTx 25 rfl rfl hz2 HLEN.out (tx_info HW.out) (start_one _) ?_); intro w3 hU3; have hT3 := hU3.out.at_; have HB3 := Lib.hid (hU3.out.below HB2.out hl2); have HG3 := Lib.hid (HG2.out.turned hU3.out (by omega) (by omega)); clear hz2)
    | (with_reducible refine wpList_load_rows rfl 25 (.tmp 3) rfl w2.heap.size 0 S.cells S.cells 25 (0, 0) _ rfl hT3 id_at Tryd.underlying25 rfl (tx_info HW.out) ?_))
  refine (rtextS_any S _ HW.out).mono ?_
  rintro e w4 ⟨rfl, hb4⟩
  rw [HC.out, ← HS.out]
  have hT4 := (hb4.block _ (block_lt hT3)).trans hT3
  have HG4 := Lib.hid (HG3.out.below hb4)
  have HB4 := Lib.hid (bw_call HB3.out hb4)
  have hb3g : g < w2.heap.size ∧ mb < w2.heap.size := hlt2
  generalize hb3 : w2.heap.size = b3 at *
  clear hb4 hT3 hb3 hlt2 hl2
  have h0 : 0 ≤ (0 : Int) := by omega
  go_wp2_with fail
  have hf := HF.out
  refine (enter_ok S s g mb 0 1 zn64 (.map []) 0 _ HG4.out HSZ.out HRD.out HSG.out (by rw [hf.2.2]; decide) (by rw [hf.1, hf.2.1]; decide) rfl (HR.out.below HB4.out HR.out.1) (by unfold maxLen; omega)).mono ?_
  rintro e w5 ⟨rfl, htu5, hG5⟩
  simp only [show ¬ (0 : Int) < 0 from by decide, if_false] at hG5 ⊢
  have HD1 := Lib.hid hG5
  have hlt4 := HG4.out.lts
  have hb34 := block_lt hT4
  have hT5 := (htu5.block b3 hb34 (by omega) (by omega)).trans hT4
  have hT5a := (Below.heap_alloc w5 (.cells Tryd.zeroCells25 25) _ (block_lt hT5)).trans hT5
  have HB5 := Lib.hid (bw_alloc (HB4.out.trans (htu5.below HB4.out.size hgl hml)) (.cells Tryd.zeroCells25 25))
  have HG5 := Lib.hid (hG5.below (bw_alloc (Below.refl _ _) (.cells Tryd.zeroCells25 25)))
  have hz5 : (w5.alloc (.cells Tryd.zeroCells25 25)).heap[w5.heap.size]? = some (.cells zlTx.toArray 25 (0, 0)) := heap_alloc_new w5 _
  have hlt5 := hG5.lts
  have hn5 : b3 ≠ w5.heap.size := Nat.ne_of_lt (block_lt hT5)
  have hl5 : w.heap.size ≤ w5.heap.size := Nat.le_trans hgl (Nat.le_of_lt hlt5.1)
  clear hT4 hT5 htu5 hG5 hlt4 hb34
  go_wp2_with ((with_reducible refine wpList_store_whole rfl 25 (.tmp 7) (.tmp 35) rfl w5.heap.size S.cells zlTx 25 rfl rfl hz5 HLEN.out (tx_info HW.out) (start_one _) ?_); intro w6 hU6; have hV6 := hU6.out.at_; have hT6 := (hU6.out.other _ hn5).trans hT5a; have HB6 := Lib.hid (hU6.out.below HB5.out hl5); have HG6 := Lib.hid (HG5.out.turned hU6.out (by omega) (by omega)); clear hz5 hT5a)
  have hb7g : g < w5.heap.size ∧ mb < w5.heap.size := hlt5
  generalize hb7 : w5.heap.size = b7 at *
  clear hb7 hl5 hlt5
  refine (enter_ok S s g mb (0 + 1) 1 zn64 _ 1 _ HG6.out HSZ.out HRD.out HSG.out (by rw [hf.2.2]; decide) (by rw [hf.1, hf.2.1]; decide) (put_at _) (HR.out.below HB6.out HR.out.1) (by unfold maxLen; omega)).mono ?_
  rintro e w8 ⟨rfl, htu8, hG8⟩
  simp only [show (0 : Int) < 1 from by decide, if_true] at hG8 ⊢
  have hT8 := (htu8.block b3 (block_lt hT6) (by omega) (by omega)).trans hT6
  have hV8 := (htu8.block b7 (block_lt hV6) (by omega) (by omega)).trans hV6
  have hT8a := (Below.heap_alloc w8 (.cells Tryd.zeroCells25 25) _ (block_lt hT8)).trans hT8
  have hV8a := (Below.heap_alloc w8 (.cells Tryd.zeroCells25 25) _ (block_lt hV8)).trans hV8
  have HB8 := Lib.hid (bw_alloc (HB6.out.trans (htu8.below HB6.out.size hgl hml)) (.cells Tryd.zeroCells25 25))
  have HG8 := Lib.hid (hG8.below (bw_alloc (Below.refl _ _) (.cells Tryd.zeroCells25 25)))
  have hz8 : (w8.alloc (.cells Tryd.zeroCells25 25)).heap[w8.heap.size]? = some (.cells zlTx.toArray 25 (0, 0)) := heap_alloc_new w8 _
  have hlt8 := hG8.lts
  have hn8 : b3 ≠ w8.heap.size := Nat.ne_of_lt (block_lt hT8)
  have hm8 : b7 ≠ w8.heap.size := Nat.ne_of_lt (block_lt hV8)
  have hl8 : w.heap.size ≤ w8.heap.size := Nat.le_trans hgl (Nat.le_of_lt hlt8.1)
  clear hT6 hV6 hT8 hV8 htu8 hG8
  go_wp2_with (first
    | ((with_reducible refine wpList_store_whole rfl 25 (.tmp 9) (.tmp 41) rfl w8.heap.size TX.zero.cells zlTx 25 rfl rfl hz8 rfl (tx_info TX.zero_wf) (start_one _) ?_); intro w9 hU9; have hT9 := (hU9.out.other _ hn8).trans hT8a; have hV9 := (hU9.out.other _ hm8).trans hV8a; have HB9 := Lib.hid (hU9.out.below HB8.out hl8); have HG9 := Lib.hid (HG8.out.turned hU9.out (by omega) (by omega)); clear hz8 hT8a hV8a)
    | (with_reducible refine wpList_load_rows_g (by kernel_rfl) 25 (.tmp 7) rfl b7 0 S.cells S.cells 25 (0, 0) _ rfl hV9 id_at Tryd.underlying25 rfl (tx_info HW.out) ?_)
    | (with_reducible refine wpList_load_rows_g (by kernel_rfl) 25 (.tmp 3) rfl b3 0 S.cells S.cells 25 (0, 0) _ rfl hT9 id_at Tryd.underlying25 rfl (tx_info HW.out) ?_)
    | ((with_reducible refine wpList_bin_g (by kernel_rfl) .eql 25 25 (.tmp 46) (.tmp 47) rfl (.agg S.cells.toArray) (.agg S.cells.toArray) (.bool (decide (S = S))) rfl rfl (tx_eqG _ _ _ _ _ _) (tx_eql HW.out HW.out _) ?_); rw [decide_eq_true (rfl : S = S)]))
  refine (done_ok S g mb (0 + 1) 1 zn64 _ 1 _ HG9.out HW.out HC.out (by rw [← HS.out]; exact put_at _) (by decide) (by rw [hf.1, hf.2.1]; rfl)).mono ?_
  rintro e w10 ⟨rfl, htu10, hG10⟩
  rw [← HS.out] at hG10
  have HB10 := Lib.hid (HB9.out.trans (htu10.below HB9.out.size hgl hml))
  have hG10' : GAt w10 g 1 (zn64.set 2 1) mb (0 + 1) (((DataW.map [] : DataW Unit).put (.string s.data.toList) (rowInt 1)).del (.string s.data.toList)) := by
    rw [hf.1, hf.2.1] at hG10
    exact hG10
  have HG10 := Lib.hid hG10'
  clear htu10 hG10 hG10' hT9 hV9
  go_wp2_with fail
  refine (next_any 2 g mb _ 1 _ _ _ HG10.out (by decide)).mono ?_
  rintro e w11 ⟨rfl, rfl⟩
  rw [show (zn64.set 2 1).getD 2 0 = 1 from rfl]
  go_wp2_with fail
  refine (in_any g mb _ 1 _ _ _ HG10.out).mono ?_
  rintro e w12 ⟨rfl, rfl⟩
  rw [del_size]
  go_wp2_with fail
  go_ret
  exact ⟨rfl, HB10.out⟩
end Go.Proofs.YtckfdmkjeocadaaDoor
