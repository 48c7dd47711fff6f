/- The reference's Check of a transaction: what the call does. -/
import Derived.Test.YtckfdmkjeocadaaDoorTx
import Derived.Test.YtckfdmkjeocadaaDoorRNum
namespace Go.Proofs.YtckfdmkjeocadaaDoor
open Go.RowKit
set_option maxHeartbeats 1000000
set_option maxRecDepth 4000
theorem within_any (n m : Int) (w : World) : Calls Tryd.prog 68 #[.int .i64 n, .int .i64 m] w fun e w' => e = .returned (.bool (decide (0 ≤ n ∧ n ≤ m))) ∧ w' = w := by
  by_cases h : 0 ≤ n
  · have hg : decide (0 ≤ n) = true := decide_eq_true h
    go_enter Tryd.func68, Tryd.ntmps68
    go_wp2
    go_ret
    refine ⟨?_, rfl⟩
    simp [h]
  · have hg : decide (0 ≤ n) = false := decide_eq_false h
    go_enter Tryd.func68, Tryd.ntmps68
    go_wp2
    go_ret
    refine ⟨?_, rfl⟩
    simp
theorem rcheck_any (t : TX) (w : World) (ht : t.wf) :
    Calls Tryd.prog 22 #[.agg t.cells.toArray] w fun e w' => e = .returned (.int .i64 t.chk) ∧ Below w.heap.size w w' := by
  have HT := Lib.hid ht
  have hA0 := TxAt.start w t
  obtain ⟨c0, c1, c2, c3, c4, c5, c6, c7⟩ := hA0.cells
  have hg0 := hA0.2
  have HA0 := Lib.hid hA0
  have heq : ∀ w, (Op.equalIn 10000 23 (.agg (u8s t.by_).toArray) (.agg zl32.toArray)).run Tryd.prog w = .ok (decide (t.by_ = z32)) w := fun w => by rw [zl32_eq]; exact eq_hash HT.out.by_ z32_length w
  clear ht hA0
  cases hln : t.lane
  · rw [hln] at c5
    have HLN := Lib.hid hln
    clear hln
    go_enter Tryd.func22, Tryd.ntmps22
    go_wp2_with (first
      | (with_reducible refine wpList_load_rows_g (by kernel_rfl) 23 (.tmp 44) rfl w.heap.size 8 (u8s t.by_) t.cells 25 (0, 0) _ rfl hg0 TX.at_by Tryd.underlying23 rfl (hash_info HT.out.by_) ?_)
      | (go_at_call 68; refine (within_any _ _ _).mono ?_; rintro e w' ⟨rfl, rfl⟩))
    go_ways
    all_goals (go_ret; refine ⟨?_, HA0.out.1⟩; refine chk_ret ?_; have hln := HLN.out; clear HT HA0 HLN c0 c1 c2 c3 c4 c5 c6 c7 heq)
    all_goals first
      | exact TX.chk_who (by omega)
      | (refine TX.chk_num (by simp_all; omega) ?_; simp_all [numOk]; omega)
      | (refine TX.chk_num (by simp_all; omega) ?_; simp_all [numOk]; done)
      | (refine TX.chk_who ?_; simp_all; omega)
      | (refine TX.chk_who ?_; intro hh; simp_all; omega)
      | (refine TX.chk_lane (by simp_all; omega) ?_ ?_ hln ?_ <;> simp_all [numOk] <;> omega)
      | (refine TX.chk_lane (by simp_all; omega) ?_ ?_ hln ?_ <;> simp_all [numOk]; done)
      | (refine TX.chk_none (by simp_all; omega) ?_ ?_ hln ?_ <;> simp_all [numOk]; done)
      | (refine TX.chk_data (by simp_all; omega) ?_ ?_ ?_ ?_ <;> simp_all [TX.lok, numOk]; done)
      | (refine TX.chk_ok (by simp_all; omega) ?_ ?_ ?_ ?_ <;> simp_all [TX.lok, numOk]; done)
      | trace_state
  · rw [hln] at c5
    have HLN := Lib.hid hln
    clear hln
    go_enter Tryd.func22, Tryd.ntmps22
    go_wp2_with (first
      | (go_at_call 68; refine (within_any _ _ _).mono ?_; rintro e w' ⟨rfl, rfl⟩))
    go_ways
    all_goals (go_ret; refine ⟨?_, HA0.out.1⟩; refine chk_ret ?_; have hln := HLN.out; clear HT HA0 HLN c0 c1 c2 c3 c4 c5 c6 c7 heq)
    all_goals first
      | exact TX.chk_who (by omega)
      | (refine TX.chk_num (by simp_all; omega) ?_; simp_all [numOk]; omega)
      | (refine TX.chk_num (by simp_all; omega) ?_; simp_all [numOk]; done)
      | (refine TX.chk_who ?_; simp_all; omega)
      | (refine TX.chk_who ?_; intro hh; simp_all; omega)
      | (refine TX.chk_lane (by simp_all; omega) ?_ ?_ hln ?_ <;> simp_all [numOk] <;> omega)
      | (refine TX.chk_lane (by simp_all; omega) ?_ ?_ hln ?_ <;> simp_all [numOk]; done)
      | (refine TX.chk_none (by simp_all; omega) ?_ ?_ hln ?_ <;> simp_all [numOk]; done)
      | (refine TX.chk_data (by simp_all; omega) ?_ ?_ ?_ ?_ <;> simp_all [TX.lok, numOk]; done)
      | (refine TX.chk_ok (by simp_all; omega) ?_ ?_ ?_ ?_ <;> simp_all [TX.lok, numOk]; done)
      | trace_state
end Go.Proofs.YtckfdmkjeocadaaDoor
