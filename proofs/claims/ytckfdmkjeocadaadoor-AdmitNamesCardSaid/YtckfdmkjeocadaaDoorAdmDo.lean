/- cavalcaderef17.New, cavalcadelaw17.of, do: what the calls do. -/
import Derived.Test.YtckfdmkjeocadaaDoorXLeave17
import Derived.Test.YtckfdmkjeocadaaDoorAdmitNone
namespace Go.Proofs.YtckfdmkjeocadaaDoor
open Go.RowKit
set_option maxHeartbeats 4000000
set_option maxRecDepth 4000
theorem made64 : madeCells #[Value.int .i64 0] 64 = (nums64 zn64).toArray := by
  apply Array.ext'
  simp only [madeCells, nums64, Array.toList_map, Array.toList_range]
  rfl
theorem xnew_any (n : Int) (w : World) (h0 : 0 ≤ n) (h1 : n ≤ 1099511627776) :
    Calls Tryd.prog 30 #[.int .i64 n] w fun e w' => e = .returned (.tuple #[.pointer (some ⟨w.heap.size + 1, 0, none⟩), .int .i64 0]) ∧ XG w' w.heap.size (w.heap.size + 1) n zn64 w.heap.size (.slice none 0 0) [] ∧ Below w.heap.size w w' := by
  have hg1 : decide (n < 0) = false := decide_eq_false (by omega)
  have hg2 : decide (1099511627776 < n) = false := decide_eq_false (by omega)
  have hG : XG ((w.alloc (.cells (madeCells #[.int .i64 0] 64) 3)).alloc (.cells #[.int .i64 n, .slice (some ⟨w.heap.size, 0, none⟩) 64 64, .slice none 0 0] 106)) w.heap.size (w.heap.size + 1) n zn64 w.heap.size (.slice none 0 0) [] := by
    refine ⟨rfl, heap_alloc2_new w _ _, ?_, own_nil _ _ _ _, fun t ht => (by cases ht), ⟨by omega, by simp [Value.ownBlock], by simp [Value.ownBlock]⟩, by simp, by omega⟩
    rw [← made64]
    exact (Below.heap_alloc _ _ _ (by simp)).trans (heap_alloc_new w _)
  have HG := Lib.hid hG
  clear hG
  go_enter Tryd.func30, Tryd.ntmps30
  go_wp2_with (refine wpList_make_row _ rfl _ _ 59 rfl 3 _ (.int .i64 0) Tryd.underlying59 int_info rfl rfl rfl .i64 .i64 64 rfl rfl (by decide) (by decide) ?_)
  go_ret2
  exact ⟨rfl, HG.out, bw_alloc (bw_alloc (Below.refl _ _) _) _⟩
theorem actC_length {kd : Int} {s : ByteArray} {t : TX} (ht : t.wf) : (actC kd s t).length = 74 := by
  have h := t.cells_length ht.by_ ht.tag
  simp [actC, h]
theorem actC_info {kd : Int} {s : ByteArray} {t : TX} (ht : t.wf) : (Tryd.prog.info? 49).map (·.size) = some (actC kd s t).length := by rw [actC_length ht]; kernel_rfl
theorem of_any (kd : Int) (s : ByteArray) (t : TX) (w : World) (ht : t.wf) (hs : s.size ≤ 140737488355328) :
    Calls Tryd.prog 75 #[.agg (actC kd s t).toArray] w fun e w' => (∃ r : TX, e = .returned (.agg r.cells.toArray) ∧ r.wf) ∧ Below w.heap.size w w' := by
  have HT := Lib.hid ht
  have HTL : Hid (t.cells.length = zlTx.length) := show _ = _ from t.cells_length HT.out.by_ HT.out.tag
  have hg0 : ((w.alloc (.cells (actC kd s t).toArray 49)).alloc (.cells Tryd.zeroCells25 25)).heap[w.heap.size]? = some (.cells (actC kd s t).toArray 49 (0, 0)) := (Below.heap_alloc _ _ _ (by simp)).trans (heap_alloc_new w _)
  have hz0 : ((w.alloc (.cells (actC kd s t).toArray 49)).alloc (.cells Tryd.zeroCells25 25)).heap[w.heap.size + 1]? = some (.cells zlTx.toArray 25 (0, 0)) := heap_alloc2_new w _ _
  have HB0 := Lib.hid (bw_alloc (bw_alloc (Below.refl w.heap.size w) (.cells (actC kd s t).toArray 49)) (.cells Tryd.zeroCells25 25))
  have c0 : ((w.alloc (.cells (actC kd s t).toArray 49)).alloc (.cells Tryd.zeroCells25 25)).cell? ⟨w.heap.size, 0, none⟩ = some (.int .i64 kd) := by rw [cell_of_row _ w.heap.size 0 _ _ _ hg0]; rfl
  have c1 : ((w.alloc (.cells (actC kd s t).toArray 49)).alloc (.cells Tryd.zeroCells25 25)).cell? ⟨w.heap.size, 1, none⟩ = some (.string s) := by rw [cell_of_row _ w.heap.size 1 _ _ _ hg0]; rfl
  clear ht
  by_cases hk : 5 < kd
  · have hd : decide (5 < kd) = true := decide_eq_true hk
    clear hk
    go_enter Tryd.func75, Tryd.ntmps75
    go_wp2_with (first
      | (with_reducible refine wpList_load_rows rfl 25 (.tmp 8) rfl w.heap.size 2 t.cells (actC kd s t) 49 (0, 0) _ rfl hg0 act_at Tryd.underlying25 rfl (tx_info HT.out) ?_)
      | ((with_reducible refine wpList_store_whole rfl 25 (.tmp 2) (.tmp 9) rfl (w.heap.size + 1) t.cells zlTx 25 rfl rfl hz0 HTL.out (tx_info HT.out) (start_one _) ?_); intro w2 hU2))
    exact post_cell 2 25 rfl (w.heap.size + 1) _ t.cells _ _ hU2.out.at_ Tryd.underlying25 rfl (tx_info HT.out) rfl rfl ⟨⟨t, rfl, HT.out⟩, hU2.out.below HB0.out (Nat.le_succ _)⟩
  · have hd : decide (5 < kd) = false := decide_eq_false hk
    clear hk
    go_enter Tryd.func75, Tryd.ntmps75
    go_wp2_with fail
    refine (rread_any s _ hs).mono ?_
    rintro e w1 ⟨rfl, hb1⟩
    have HRW : Hid (txOf (rdTx s)).wf := show _ from by
      cases hr : rdTx s with
      | error x => exact TX.zero_wf
      | ok u => exact (tx_back hr).1
    generalize txOf (rdTx s) = r at *
    generalize errOf (rdTx s) = er at *
    have HRL : Hid (r.cells.length = zlTx.length) := show _ = _ from r.cells_length HRW.out.by_ HRW.out.tag
    have hz1 := keep_row hb1 hz0
    have hz1a := (Below.heap_alloc w1 (.cells Tryd.zeroCells25 25) _ (block_lt hz1)).trans hz1
    have hz2 : (w1.alloc (.cells Tryd.zeroCells25 25)).heap[w1.heap.size]? = some (.cells zlTx.toArray 25 (0, 0)) := heap_alloc_new w1 _
    have hne : w.heap.size + 1 ≠ w1.heap.size := Nat.ne_of_lt (block_lt hz1)
    have HB1 := Lib.hid (bw_alloc (bw_call HB0.out hb1) (.cells Tryd.zeroCells25 25))
    have hle : w.heap.size ≤ w1.heap.size := by have := block_lt hz1; omega
    clear hb1 hz0 hg0 c0 c1 hz1
    go_wp2_with (first
      | ((with_reducible refine wpList_store_whole rfl 25 (.tmp 3) (.tmp 14) rfl w1.heap.size r.cells zlTx 25 rfl rfl hz2 HRL.out (tx_info HRW.out) (start_one _) ?_); intro w2 hU2; have hT2 := hU2.out.at_; have hz3 := (hU2.out.other _ hne).trans hz1a; have HB2 := Lib.hid (hU2.out.below HB1.out hle); clear hz2 hz1a)
      | (with_reducible refine wpList_load_rows rfl 25 (.tmp 3) rfl w1.heap.size 0 r.cells r.cells 25 (0, 0) _ rfl hT2 id_at Tryd.underlying25 rfl (tx_info HRW.out) ?_)
      | ((with_reducible refine wpList_store_whole rfl 25 (.tmp 2) (.tmp 16) rfl (w.heap.size + 1) r.cells zlTx 25 rfl rfl hz3 HRL.out (tx_info HRW.out) (start_one _) ?_); intro w3 hU3))
    exact post_cell 2 25 rfl (w.heap.size + 1) _ r.cells _ _ hU3.out.at_ Tryd.underlying25 rfl (tx_info HRW.out) rfl rfl ⟨⟨r, rfl, HRW.out⟩, hU3.out.below HB2.out (Nat.le_succ _)⟩
end Go.Proofs.YtckfdmkjeocadaaDoor
