/- cavalcadelaw17.AdmitNone: what the call does. -/
import Derived.Test.YtckfdmkjeocadaaDoorAwake17
namespace Go.Proofs.YtckfdmkjeocadaaDoor
open Go.RowKit
set_option maxHeartbeats 4000000
set_option maxRecDepth 4000
def actC (kd : Int) (s : ByteArray) (t : TX) : List Value := .int .i64 kd :: .string s :: t.cells
theorem act_at {kd : Int} {s : ByteArray} {t : TX} : ∀ j v, t.cells[j]? = some v → (actC kd s t)[2 + j]? = some v := fun j v h => by
  unfold actC
  rw [Nat.add_comm, List.getElem?_cons_succ, List.getElem?_cons_succ]
  exact h
theorem admitNone_any (kd : Int) (s : ByteArray) (t : TX) (w : World) (ht : t.wf) (hR : RoundsAt w) :
    Calls Tryd.prog 8 #[.agg (actC kd s t).toArray] w fun e w' => e = .returned (.bool true) ∧ Below w.heap.size w w' := by
  have HT := Lib.hid ht
  have HR := Lib.hid hR
  have hg0 := heap_alloc_new w (.cells (actC kd s t).toArray 49)
  have HB0 := Lib.hid (bw_alloc (Below.refl w.heap.size w) (.cells (actC kd s t).toArray 49))
  have c1 : (w.alloc (.cells (actC kd s t).toArray 49)).cell? ⟨w.heap.size, 1, none⟩ = some (.string s) := by rw [cell_of_row _ w.heap.size 1 _ _ _ hg0]; rfl
  clear ht hR
  go_enter Tryd.func8, Tryd.ntmps8
  go_wp2_with fail
  refine (ask_nil s _).mono ?_
  rintro e w1 ⟨rfl, hb1⟩
  have hA1 := (hb1.block _ (block_lt hg0)).trans hg0
  have hA1a := (Below.heap_alloc w1 (.cells Tryd.zeroCells25 25) _ (block_lt hA1)).trans hA1
  have hz1 : (w1.alloc (.cells Tryd.zeroCells25 25)).heap[w1.heap.size]? = some (.cells zlTx.toArray 25 (0, 0)) := heap_alloc_new w1 _
  have HB1 := Lib.hid (bw_alloc (bw_call HB0.out hb1) (.cells Tryd.zeroCells25 25))
  have hn1 : w.heap.size ≠ w1.heap.size := Nat.ne_of_lt (block_lt hA1)
  have hl1 : w.heap.size ≤ w1.heap.size := Nat.le_of_lt (block_lt hA1)
  clear hb1 hg0 c1 hA1
  go_wp2_with ((with_reducible refine wpList_store_whole rfl 25 (.tmp 4) (.tmp 13) rfl w1.heap.size TX.zero.cells zlTx 25 rfl rfl hz1 rfl (tx_info TX.zero_wf) (start_one _) ?_); intro w2 hU2; have hV2 := hU2.out.at_; have hA2 := (hU2.out.other _ hn1).trans hA1a; have HB2 := Lib.hid (hU2.out.below HB1.out hl1); have c1 : w2.cell? ⟨w.heap.size, 1, none⟩ = some (.string s) := (by rw [cell_of_row _ w.heap.size 1 _ _ _ hA2]; rfl); clear hz1 hA1a)
  refine (enter_nil s _).mono ?_
  rintro e w3 ⟨rfl, hb3⟩
  have hA3 := (hb3.block _ (block_lt hA2)).trans hA2
  have hV3 := (hb3.block _ (block_lt hV2)).trans hV2
  have hA3a := (Below.heap_alloc w3 (.cells Tryd.zeroCells25 25) _ (block_lt hA3)).trans hA3
  have hV3a := (Below.heap_alloc w3 (.cells Tryd.zeroCells25 25) _ (block_lt hV3)).trans hV3
  have hz3 : (w3.alloc (.cells Tryd.zeroCells25 25)).heap[w3.heap.size]? = some (.cells zlTx.toArray 25 (0, 0)) := heap_alloc_new w3 _
  have HB3 := Lib.hid (bw_alloc (bw_call HB2.out hb3) (.cells Tryd.zeroCells25 25))
  have hn3 : w.heap.size ≠ w3.heap.size := Nat.ne_of_lt (block_lt hA3)
  have hm3 : w1.heap.size ≠ w3.heap.size := Nat.ne_of_lt (block_lt hV3)
  have hl3 : w.heap.size ≤ w3.heap.size := Nat.le_of_lt (block_lt hA3)
  clear hb3 hA2 hV2 c1 hA3 hV3
  generalize w1.heap.size = b1 at *
  go_wp2_with ((with_reducible refine wpList_store_whole rfl 25 (.tmp 6) (.tmp 20) rfl w3.heap.size TX.zero.cells zlTx 25 rfl rfl hz3 rfl (tx_info TX.zero_wf) (start_one _) ?_); intro w4 hU4; have hX4 := hU4.out.at_; have hA4 := (hU4.out.other _ hn3).trans hA3a; have hV4 := (hU4.out.other _ hm3).trans hV3a; have HB4 := Lib.hid (hU4.out.below HB3.out hl3); clear hz3 hA3a hV3a)
  refine (awake17_any _ (HR.out.below HB4.out HR.out.1)).mono ?_
  rintro e w5 ⟨rfl, hb5⟩
  have hA5 := (hb5.block _ (block_lt hA4)).trans hA4
  have hV5 := (hb5.block _ (block_lt hV4)).trans hV4
  have hX5 := (hb5.block _ (block_lt hX4)).trans hX4
  have HB5 := Lib.hid (bw_call HB4.out hb5)
  clear hb5 hA4 hV4 hX4
  generalize w3.heap.size = b3 at *
  go_wp2_with (first
    | (with_reducible refine wpList_load_rows_g (by kernel_rfl) 25 (.tmp 4) rfl b1 0 TX.zero.cells TX.zero.cells 25 (0, 0) _ rfl hV5 id_at Tryd.underlying25 rfl (tx_info TX.zero_wf) ?_)
    | (with_reducible refine wpList_load_rows_g (by kernel_rfl) 25 (.tmp 6) rfl b3 0 TX.zero.cells TX.zero.cells 25 (0, 0) _ rfl hX5 id_at Tryd.underlying25 rfl (tx_info TX.zero_wf) ?_)
    | (with_reducible refine wpList_load_rows_g (by kernel_rfl) 25 (.tmp 43) rfl w.heap.size 2 t.cells (actC kd s t) 49 (0, 0) _ rfl hA5 act_at Tryd.underlying25 rfl (tx_info HT.out) ?_)
    | (with_reducible refine wpList_build_g (by kernel_rfl) 25 [] rfl [] (.agg TX.zero.cells.toArray) rfl (tx_build0 _) ?_)
    | ((with_reducible refine wpList_bin_g (by kernel_rfl) .eql 25 25 (.tmp 32) (.tmp 33) rfl (.agg TX.zero.cells.toArray) (.agg TX.zero.cells.toArray) (.bool (decide (TX.zero = TX.zero))) rfl rfl (tx_eqG _ _ _ _ _ _) (tx_eql TX.zero_wf TX.zero_wf _) ?_); rw [decide_eq_true (rfl : TX.zero = TX.zero)])
    | ((with_reducible refine wpList_bin_g (by kernel_rfl) .eql 25 25 (.tmp 37) (.tmp 38) rfl (.agg TX.zero.cells.toArray) (.agg TX.zero.cells.toArray) (.bool (decide (TX.zero = TX.zero))) rfl rfl (tx_eqG _ _ _ _ _ _) (tx_eql TX.zero_wf TX.zero_wf _) ?_); rw [decide_eq_true (rfl : TX.zero = TX.zero)]))
  refine (leave_nil t _ HT.out).mono ?_
  rintro e w6 ⟨rfl, hb6⟩
  have hA6 := (hb6.block _ (block_lt hA5)).trans hA5
  have HB6 := Lib.hid (bw_call HB5.out hb6)
  clear hb6 hA5 hV5 hX5
  go_wp2_with (with_reducible refine wpList_load_rows_g (by kernel_rfl) 25 (.tmp 50) rfl w.heap.size 2 t.cells (actC kd s t) 49 (0, 0) _ rfl hA6 act_at Tryd.underlying25 rfl (tx_info HT.out) ?_)
  refine (done_nil t _ HT.out).mono ?_
  rintro e w7 ⟨rfl, hb7⟩
  have hA7 := (hb7.block _ (block_lt hA6)).trans hA6
  have HB7 := Lib.hid (bw_call HB6.out hb7)
  have c2 : w7.cell? ⟨w.heap.size, 2, none⟩ = some (.int .i64 t.frm) := by rw [cell_of_row _ w.heap.size 2 _ _ _ hA7]; rfl
  clear hb7 hA6 hA7
  go_wp2_with fail
  refine (next_nil t.frm _).mono ?_
  rintro e w8 ⟨rfl, rfl⟩
  go_wp2_with fail
  refine (in_nil _).mono ?_
  rintro e w9 ⟨rfl, rfl⟩
  go_wp2_with fail
  go_ret
  exact ⟨rfl, HB7.out⟩
end Go.Proofs.YtckfdmkjeocadaaDoor
