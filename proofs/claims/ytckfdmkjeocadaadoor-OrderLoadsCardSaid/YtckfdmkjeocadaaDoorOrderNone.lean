/- cavalcadelaw19.OrderNone: what the call does. -/
import Derived.Test.YtckfdmkjeocadaaDoorAwake19
namespace Go.Proofs.YtckfdmkjeocadaaDoor
open Go.RowKit
set_option maxHeartbeats 4000000
set_option maxRecDepth 4000
def actQ (kd lt : Int) (b : ByteArray) (ld : Bool) (r : RC) : List Value := .int .i64 kd :: .int .i64 lt :: .string b :: .bool ld :: r.cells
theorem actQ_at {kd lt : Int} {b : ByteArray} {ld : Bool} {r : RC} : ∀ j v, r.cells[j]? = some v → (actQ kd lt b ld r)[4 + j]? = some v := fun j v h => by
  unfold actQ
  rw [Nat.add_comm, List.getElem?_cons_succ, List.getElem?_cons_succ, List.getElem?_cons_succ, List.getElem?_cons_succ]
  exact h
theorem taken_nil (i : Int) (w : World) : Calls Tryd.prog 54 #[.pointer none, .int .i64 i] w fun e w' => e = .returned (.int .i64 0) ∧ w' = w := by
  go_enter Tryd.func54, Tryd.ntmps54
  go_wp2_with fail
  apply wp_scope_straight
  go_wp2_with fail
  apply wp_label
  go_wp2_with fail
  refine (lfrom_nil 0 _).mono ?_
  rintro e w1 ⟨rfl, rfl⟩
  go_wp2_with fail
  go_loopw [5, 11] (fun n k wr => n = .int .i64 0 ∧ k = .int .i64 0 ∧ wr = w1) (fun _ _ _ => 0)
  case atStart => exact ⟨rfl, rfl, rfl⟩
  case round =>
    obtain ⟨rfl, rfl, rfl⟩ := hrel
    go_wp2_with fail
    rw [Exit.noGoto_ret]
    go_ret
    exact ⟨rfl, rfl⟩
theorem orderNone_any (kd lt : Int) (b : ByteArray) (ld : Bool) (r : RC) (i : Int) (w : World) (hr : r.wf) (hR : RoundsAt w) :
    Calls Tryd.prog 12 #[.agg (actQ kd lt b ld r).toArray, .int .i64 i] w fun e w' => e = .returned (.bool true) ∧ Below w.heap.size w w' := by
  have HRW := Lib.hid hr
  have HR := Lib.hid hR
  have hg0 := heap_alloc_new w (.cells (actQ kd lt b ld r).toArray 71)
  have HB0 := Lib.hid (bw_alloc (Below.refl w.heap.size w) (.cells (actQ kd lt b ld r).toArray 71))
  have c0 : (w.alloc (.cells (actQ kd lt b ld r).toArray 71)).cell? ⟨w.heap.size, 0, none⟩ = some (.int .i64 kd) := by rw [cell_of_row _ w.heap.size 0 _ _ _ hg0]; rfl
  have c1 : (w.alloc (.cells (actQ kd lt b ld r).toArray 71)).cell? ⟨w.heap.size, 1, none⟩ = some (.int .i64 lt) := by rw [cell_of_row _ w.heap.size 1 _ _ _ hg0]; rfl
  have c2 : (w.alloc (.cells (actQ kd lt b ld r).toArray 71)).cell? ⟨w.heap.size, 2, none⟩ = some (.string b) := by rw [cell_of_row _ w.heap.size 2 _ _ _ hg0]; rfl
  clear hr hR
  go_enter Tryd.func12, Tryd.ntmps12
  go_wp2_with fail
  refine (add_nil kd b lt _).mono ?_
  rintro e w1 ⟨rfl, hb1⟩
  have hA1 := keep_row hb1 hg0
  have hA1a := (Below.heap_alloc w1 (.cells Tryd.zeroCells61 61) _ (block_lt hA1)).trans hA1
  have hz1 : (w1.alloc (.cells Tryd.zeroCells61 61)).heap[w1.heap.size]? = some (.cells zlRc.toArray 61 (0, 0)) := heap_alloc_new w1 _
  have HB1 := Lib.hid (bw_alloc (bw_call HB0.out hb1) (.cells Tryd.zeroCells61 61))
  have hn1 : w.heap.size ≠ w1.heap.size := Nat.ne_of_lt (block_lt hA1)
  have hl1 : w.heap.size ≤ w1.heap.size := Nat.le_of_lt (block_lt hA1)
  clear hb1 hg0 c0 c1 c2 hA1 HB0
  go_wp2_with ((with_reducible refine wpList_store_whole rfl 61 (.tmp 6) (.tmp 19) rfl w1.heap.size RC.zero.cells zlRc 61 rfl rfl hz1 rfl (rc_info RC.zero_wf) (rc_one _) ?_); intro w2 hU2; have hV2 := hU2.out.at_; have hA2 := (hU2.out.other _ hn1).trans hA1a; have HB2 := Lib.hid (hU2.out.below HB1.out hl1); clear hz1 hA1a)
  refine (at_nil i _).mono ?_
  rintro e w3 ⟨rfl, hb3⟩
  have hA3 := keep_row hb3 hA2
  have hV3 := keep_row hb3 hV2
  have hA3a := (Below.heap_alloc w3 (.cells Tryd.zeroCells61 61) _ (block_lt hA3)).trans hA3
  have hV3a := (Below.heap_alloc w3 (.cells Tryd.zeroCells61 61) _ (block_lt hV3)).trans hV3
  have hz3 : (w3.alloc (.cells Tryd.zeroCells61 61)).heap[w3.heap.size]? = some (.cells zlRc.toArray 61 (0, 0)) := heap_alloc_new w3 _
  have HB3 := Lib.hid (bw_alloc (bw_call HB2.out hb3) (.cells Tryd.zeroCells61 61))
  have hn3 : w.heap.size ≠ w3.heap.size := Nat.ne_of_lt (block_lt hA3)
  have hm3 : w1.heap.size ≠ w3.heap.size := Nat.ne_of_lt (block_lt hV3)
  have hl3 : w.heap.size ≤ w3.heap.size := Nat.le_of_lt (block_lt hA3)
  clear hb3 hA2 hV2 hA3 hV3 HB1 HB2
  generalize w1.heap.size = b1 at *
  go_wp2_with ((with_reducible refine wpList_store_whole rfl 61 (.tmp 8) (.tmp 25) rfl w3.heap.size RC.zero.cells zlRc 61 rfl rfl hz3 rfl (rc_info RC.zero_wf) (rc_one _) ?_); intro w4 hU4; have hX4 := hU4.out.at_; have hA4 := (hU4.out.other _ hn3).trans hA3a; have hV4 := (hU4.out.other _ hm3).trans hV3a; have HB4 := Lib.hid (hU4.out.below HB3.out hl3); clear hz3 hA3a hV3a)
  refine (awake19_any _ (HR.out.below HB4.out HR.out.1)).mono ?_
  rintro e w5 ⟨rfl, hb5⟩
  have hA5 := keep_row hb5 hA4
  have hV5 := keep_row hb5 hV4
  have hX5 := keep_row hb5 hX4
  have HB5 := Lib.hid (bw_call HB4.out hb5)
  clear hb5 hA4 hV4 hX4
  generalize w3.heap.size = b3 at *
  go_wp2_with (first
    | (with_reducible refine wpList_load_rows_g (by kernel_rfl) 61 (.tmp 6) rfl b1 0 RC.zero.cells RC.zero.cells 61 (0, 0) _ rfl hV5 id_at Tryd.underlying61 rfl (rc_info RC.zero_wf) ?_)
    | (with_reducible refine wpList_load_rows_g (by kernel_rfl) 61 (.tmp 8) rfl b3 0 RC.zero.cells RC.zero.cells 61 (0, 0) _ rfl hX5 id_at Tryd.underlying61 rfl (rc_info RC.zero_wf) ?_)
    | (with_reducible refine wpList_load_rows_g (by kernel_rfl) 61 (.tmp 48) rfl w.heap.size 4 r.cells (actQ kd lt b ld r) 71 (0, 0) _ rfl hA5 actQ_at Tryd.underlying61 rfl (rc_info HRW.out) ?_)
    | (with_reducible refine wpList_build_g (by kernel_rfl) 61 [] rfl [] (.agg RC.zero.cells.toArray) rfl (rc_build0 _) ?_)
    | ((with_reducible refine wpList_bin_g (by kernel_rfl) .eql 61 61 (.tmp 29) (.tmp 30) rfl (.agg RC.zero.cells.toArray) (.agg RC.zero.cells.toArray) (.bool (decide (RC.zero = RC.zero))) rfl rfl (rc_eqG _ _ _ _ _ _) (rc_eql RC.zero_wf RC.zero_wf _) ?_); rw [decide_eq_true (rfl : RC.zero = RC.zero)])
    | ((with_reducible refine wpList_bin_g (by kernel_rfl) .eql 61 61 (.tmp 34) (.tmp 35) rfl (.agg RC.zero.cells.toArray) (.agg RC.zero.cells.toArray) (.bool (decide (RC.zero = RC.zero))) rfl rfl (rc_eqG _ _ _ _ _ _) (rc_eql RC.zero_wf RC.zero_wf _) ?_); rw [decide_eq_true (rfl : RC.zero = RC.zero)]))
  refine (load_nil r _).mono ?_
  rintro e w6 ⟨rfl, hb6⟩
  have HB6 := Lib.hid (bw_call HB5.out hb6)
  clear hb6 hA5 hV5 hX5
  go_wp2_with fail
  refine (lfrom_nil i _).mono ?_
  rintro e w7 ⟨rfl, rfl⟩
  go_wp2_with fail
  refine (len_nil _).mono ?_
  rintro e w8 ⟨rfl, rfl⟩
  go_wp2_with fail
  refine (lnext_nil i _).mono ?_
  rintro e w9 ⟨rfl, rfl⟩
  go_wp2_with fail
  refine (taken_nil i _).mono ?_
  rintro e w10 ⟨rfl, rfl⟩
  go_wp2_with fail
  refine (head_nil _).mono ?_
  rintro e w11 ⟨rfl, hb11⟩
  have HB11 := Lib.hid (bw_call HB6.out hb11)
  clear hb11
  go_wp2_with (first
    | (with_reducible refine wpList_build_g (by kernel_rfl) 23 [] rfl [] (.agg (u8s z32).toArray) rfl (hash0_build _) ?_)
    | ((with_reducible refine wpList_bin_g (by kernel_rfl) .eql 23 23 (.tmp 73) (.tmp 74) rfl (.agg (u8s z32).toArray) (.agg (u8s z32).toArray) (.bool (decide (z32 = z32))) rfl rfl (hash_eqG _ _ _ _ _ _) (hash_eql z32_length z32_length _) ?_); rw [decide_eq_true (rfl : z32 = z32)]))
  go_ret
  exact ⟨rfl, HB11.out⟩
end Go.Proofs.YtckfdmkjeocadaaDoor
