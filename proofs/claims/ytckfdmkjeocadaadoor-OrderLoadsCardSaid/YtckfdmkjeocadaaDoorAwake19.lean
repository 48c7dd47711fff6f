/- cavalcadelaw19.awake: what the call does. -/
import Derived.Test.YtckfdmkjeocadaaDoorLogRead
namespace Go.Proofs.YtckfdmkjeocadaaDoor
open Go.RowKit
set_option maxHeartbeats 4000000
set_option maxRecDepth 4000
theorem hash_eqG (op : BinOp) (x y : Operand) (xs ys : Array Value) (w : World) : (eqGuard op 23 x y (.agg xs) (.agg ys)).run Tryd.prog w = .ok () w := run_eqGuard_agg w op _ x y xs ys (by kernel_rfl)
theorem hash_eql {a b : List UInt8} (ha : a.length = 32) (hb : b.length = 32) (w : World) : (binOp .eql 23 (.agg (u8s a).toArray) (.agg (u8s b).toArray)).run Tryd.prog w = .ok (.bool (decide (a = b))) w := by
  rw [run_eql_struct, eq_hash ha hb]
  rfl
theorem hash_neq {a b : List UInt8} (ha : a.length = 32) (hb : b.length = 32) (w : World) : (binOp .neq 23 (.agg (u8s a).toArray) (.agg (u8s b).toArray)).run Tryd.prog w = .ok (.bool !(decide (a = b))) w := by
  rw [run_neq_struct, eq_hash ha hb]
  rfl
theorem awake_first : mkErr [] (cnt []) 2 ⟨#[97]⟩ 3 = 0 := by decide
theorem awake_late (r : RC) (h : r.time = 3) : mkErr [r] (cnt [r]) 2 ⟨#[98]⟩ 2 = 33 := by
  have h1 : isLate [r] 2 = true := by
    show decide ((2 : Int) < r.time) = true
    rw [h]; decide
  have h2 : fromOf [r] (cnt [r]) 2 ⟨#[98]⟩ 2 = (0, 33) := by rw [fromOf, if_pos h1]
  rw [mkErr, h2, if_neg (by decide)]
theorem awake19_any (w : World) (hR : RoundsAt w) : Calls Tryd.prog 40 #[] w fun e w' => e = .returned (.bool true) ∧ Below w.heap.size w w' := by
  have HR := Lib.hid hR
  obtain ⟨r, hr⟩ : ∃ r, r = mkRc [] (cnt []) 2 ⟨#[97]⟩ 3 := ⟨_, rfl⟩
  have hrl : r = linkOf z32 0 2 3 ⟨#[97]⟩ := by rw [hr, (mk_ok awake_first).2.2.1]; rfl
  have HF : Hid (r.index = 0 ∧ r.kind = 2 ∧ r.time = 3) := show _ ∧ _ from by rw [hrl]; exact ⟨rfl, rfl, rfl⟩
  have HRW : Hid r.wf := show _ from by rw [hr]; exact mkRc_wf (by simp) (by decide) ⟨by decide, by decide⟩ ⟨by decide, by decide⟩ (by decide)
  have HN1 : Hid (nextRs [] 2 ⟨#[97]⟩ 3 = [r]) := show _ = _ by rw [hr, (next_ok awake_first).1]; rfl
  have HE2 : Hid (mkErr [r] (cnt [r]) 2 ⟨#[98]⟩ 2 = 33) := show _ = _ from awake_late r HF.out.2.2
  have HM2 : Hid (mkRc [r] (cnt [r]) 2 ⟨#[98]⟩ 2 = RC.zero) := show _ = _ from mk_bad (by rw [HE2.out]; decide)
  have HN2 : Hid (nextRs [r] 2 ⟨#[98]⟩ 2 = [r]) := show _ = _ from next_bad (by rw [HE2.out]; decide)
  have HRL : Hid (r.cells.length = zlRc.length) := show _ = _ from rc_len HRW.out
  have HR1 : Hid (mkRc [] (cnt []) 2 ⟨#[97]⟩ 3 = r ∧ mkErr [] (cnt []) 2 ⟨#[97]⟩ 3 = 0) := show _ ∧ _ from ⟨hr.symm, awake_first⟩
  have HTK : Hid (takenOf [r] 9 = 1) := show _ = _ by
    show ([r].take 9).countP (fun r => decide (r.kind = 2)) = 1
    simp [HF.out.2.1]
  have HHD : Hid (headOf [r] = r.hash) := show _ = _ from rfl
  clear hrl hr hR
  go_enter Tryd.func40, Tryd.ntmps40
  go_wp2_with fail
  refine (new_log _).mono ?_
  rintro e w1 ⟨rfl, hL1, hb1⟩
  have HL1 := Lib.hid hL1
  have HB1 := Lib.hid hb1
  have hlw : w.heap.size < w1.heap.size := hL1.lts.1
  clear hL1 hb1
  go_wp2_with fail
  refine (add_any (w.heap.size + 1) w.heap.size (.slice none 0 0) [] 2 ⟨#[97]⟩ 3 _ HL1.out ⟨by decide, by decide⟩ ⟨by decide, by decide⟩ (by decide) (HR.out.below HB1.out HR.out.1) (by decide) hlw).mono ?_
  rintro e w2 ⟨rfl, ⟨sv2, hL2, -⟩, hT2⟩
  rw [HN1.out] at hL2
  rw [HR1.out.1, HR1.out.2]
  have hB2 := hT2.below HB1.out (Nat.le_refl _) (fun k hk => by have := own_blk HL1.out.own k hk; omega) HB1.out.size
  have hL2a := hL2.below (bw_alloc (Below.refl _ _) (.cells Tryd.zeroCells61 61))
  have HB2 := Lib.hid (bw_alloc hB2 (.cells Tryd.zeroCells61 61))
  have hz2 : (w2.alloc (.cells Tryd.zeroCells61 61)).heap[w2.heap.size]? = some (.cells zlRc.toArray 61 (0, 0)) := heap_alloc_new w2 _
  have hle2 := hB2.size
  have hlt2 := hL2.lts
  have HO2 : Hid (w2.heap.size ≠ w.heap.size ∧ sv2.ownBlock ≠ some w2.heap.size ∧ w.heap.size + 1 ≤ w2.heap.size) := show _ ∧ _ from ⟨by omega, fun h => by have := hlt2.2 _ h; omega, by omega⟩
  have HL2 := Lib.hid hL2a
  clear hL2 hT2 hB2 hL2a hlt2
  go_wp2_with ((with_reducible refine wpList_store_whole rfl 61 (.tmp 2) (.tmp 12) rfl w2.heap.size r.cells zlRc 61 rfl rfl hz2 HRL.out (rc_info HRW.out) (rc_one _) ?_); intro w3 hU3; have hT3 := hU3.out.at_; have HB3 := Lib.hid (hU3.out.below HB2.out hle2); have HL3 := Lib.hid (HL2.out.upd hU3.out HO2.out.1 HO2.out.2.1); clear hz2)
  have hs3 : w3.heap.size = w2.heap.size + 1 := by rw [hU3.out.size]; simp
  refine (add_any (w.heap.size + 1) w.heap.size sv2 [r] 2 ⟨#[98]⟩ 2 _ HL3.out ⟨by decide, by decide⟩ ⟨by decide, by decide⟩ (by decide) (HR.out.below HB3.out HR.out.1) (by simp) (by have := HO2.out.2.2; omega)).mono ?_
  rintro e w4 ⟨rfl, ⟨sv4, hL4, -⟩, hT4⟩
  rw [HN2.out] at hL4
  rw [HM2.out, HE2.out]
  have hB4 := hT4.below HB3.out (Nat.le_refl _) (fun k hk => by have := own_blk HL3.out.own k hk; omega) HB3.out.size
  have hb4 := (hT4.block w2.heap.size (by omega) HO2.out.1 (Ne.symm HO2.out.2.1)).trans hT3
  have hL4a := hL4.below (bw_alloc (Below.refl _ _) (.cells Tryd.zeroCells61 61))
  have HB4 := Lib.hid (bw_alloc hB4 (.cells Tryd.zeroCells61 61))
  have hz4 : (w4.alloc (.cells Tryd.zeroCells61 61)).heap[w4.heap.size]? = some (.cells zlRc.toArray 61 (0, 0)) := heap_alloc_new w4 _
  have hb4a := (Below.heap_alloc w4 (.cells Tryd.zeroCells61 61) _ (block_lt hb4)).trans hb4
  have hle4 := hB4.size
  have hlt4 := hL4.lts
  have HO4 : Hid (w4.heap.size ≠ w.heap.size ∧ sv4.ownBlock ≠ some w4.heap.size ∧ w2.heap.size ≠ w4.heap.size) := show _ ∧ _ from ⟨by omega, fun h => by have := hlt4.2 _ h; omega, Nat.ne_of_lt (block_lt hb4)⟩
  have HL4 := Lib.hid hL4a
  clear hL4 hT4 hB4 hL4a hlt4 hb4 hT3
  go_wp2_with ((with_reducible refine wpList_store_whole rfl 61 (.tmp 4) (.tmp 17) rfl w4.heap.size RC.zero.cells zlRc 61 rfl rfl hz4 rfl (rc_info RC.zero_wf) (rc_one _) ?_); intro w5 hU5; have hb5 := (hU5.out.other _ HO4.out.2.2).trans hb4a; have HB5 := Lib.hid (hU5.out.below HB4.out hle4); have HL5 := Lib.hid (HL4.out.upd hU5.out HO4.out.1 HO4.out.2.1); clear hz4 hb4a)
  generalize w2.heap.size = b2 at *
  have k5 : w5.drew.cell? ⟨b2, 0, none⟩ = some (.int .i64 0) := by rw [cell_of_row w5.drew b2 0 _ _ _ hb5, ← HF.out.1]; rfl
  refine wp_region_class (fun W => (Below w.heap.size w W ∧ LgAt W (w.heap.size + 1) w.heap.size sv4 [r] (cnt [r]) ∧ W.heap[b2]? = some (.cells r.cells.toArray 61 (0, 0))) ∧ W.cell? ⟨b2, 0, none⟩ = some (.int .i64 0)) (by kernel_rfl) (by kernel_rfl) ⟨⟨HB5.out.drew, HL5.out.below (Below.refl _ _).drew, hb5⟩, k5⟩ ?_
  refine wq_gen (v := ?_) (by kernel_rfl) ?_ ?_
  rotate_left
  · intro W hC
    go_simp
    try with_reducible rfl
  try simp only [Act.put, List.setIfInBounds_toArray, List.set_cons_zero, List.set_cons_succ]
  refine wq_gen (v := ?_) (by kernel_rfl) ?_ ?_
  rotate_left
  · intro W hC
    go_simp
    try with_reducible rfl
  try simp only [Act.put, List.setIfInBounds_toArray, List.set_cons_zero, List.set_cons_succ]
  refine wq_gen (v := ?_) (by kernel_rfl) ?_ ?_
  rotate_left
  · intro W hC
    go_simp
    try with_reducible rfl
  try simp only [Act.put, List.setIfInBounds_toArray, List.set_cons_zero, List.set_cons_succ]
  refine wq_gen (v := ?_) (by kernel_rfl) ?_ ?_
  rotate_left
  · intro W hC
    go_simp
    try with_reducible rfl
  try simp only [Act.put, List.setIfInBounds_toArray, List.set_cons_zero, List.set_cons_succ]
  refine wq_gen (v := ?_) (by kernel_rfl) ?_ ?_
  rotate_left
  · intro W hC
    go_simp
    try with_reducible rfl
  try simp only [Act.put, List.setIfInBounds_toArray, List.set_cons_zero, List.set_cons_succ]
  refine wq_gen (v := ?_) (by kernel_rfl) ?_ ?_
  rotate_left
  · intro W hC
    go_simp
    try with_reducible rfl
  try simp only [Act.put, List.setIfInBounds_toArray, List.set_cons_zero, List.set_cons_succ]
  refine wq_gen (v := ?_) (by kernel_rfl) ?_ ?_
  rotate_left
  · intro W hC
    go_simp
    try with_reducible rfl
  try simp only [Act.put, List.setIfInBounds_toArray, List.set_cons_zero, List.set_cons_succ]
  refine wq_gen (v := ?_) (by kernel_rfl) ?_ ?_
  rotate_left
  · intro W hC
    go_simp
    try with_reducible rfl
  try simp only [Act.put, List.setIfInBounds_toArray, List.set_cons_zero, List.set_cons_succ]
  refine wq_gen (v := ?_) (by kernel_rfl) ?_ ?_
  rotate_left
  · intro W hC
    go_simp
    try with_reducible rfl
  try simp only [Act.put, List.setIfInBounds_toArray, List.set_cons_zero, List.set_cons_succ]
  refine wq_gen (v := ?_) (by kernel_rfl) ?_ ?_
  rotate_left
  · intro W hC
    go_simp
    try with_reducible rfl
  try simp only [Act.put, List.setIfInBounds_toArray, List.set_cons_zero, List.set_cons_succ]
  refine wq_gen (v := ?_) (by kernel_rfl) ?_ ?_
  rotate_left
  · intro W hC
    go_simp
    try with_reducible rfl
  try simp only [Act.put, List.setIfInBounds_toArray, List.set_cons_zero, List.set_cons_succ]
  refine wq_gen (v := ?_) (by kernel_rfl) ?_ ?_
  rotate_left
  · intro W hC
    go_simp
    try with_reducible rfl
  try simp only [Act.put, List.setIfInBounds_toArray, List.set_cons_zero, List.set_cons_succ]
  refine wq_gen (v := ?_) (by kernel_rfl) ?_ ?_
  rotate_left
  · intro W hC
    go_simp
    try with_reducible rfl
  try simp only [Act.put, List.setIfInBounds_toArray, List.set_cons_zero, List.set_cons_succ]
  refine wq_call (f := 54) (args := #[.pointer (some ⟨w.heap.size, 0, none⟩), .int .i64 9]) (v := .int .i64 1) (by kernel_rfl) (fun W hC => ?_) (fun W hC => ?_) ?_
  · go_simp
    try with_reducible rfl
  · exact (taken_any _ _ _ _ _ 9 W hC.1.2.1 (by have := hC.1.2.1.lts.1; omega)).mono (fun e W' h => ⟨h.1.trans (by rw [HTK.out]; rfl), ⟨bw_call hC.1.1 h.2, hC.1.2.1.below h.2, keep_row h.2 hC.1.2.2⟩, (h.2.cell (block_of_cell hC.2)).trans hC.2⟩)
  try simp only [Act.put, List.setIfInBounds_toArray, List.set_cons_zero, List.set_cons_succ]
  refine wq_gen (v := ?_) (by kernel_rfl) ?_ ?_
  rotate_left
  · intro W hC
    go_simp
    try with_reducible rfl
  try simp only [Act.put, List.setIfInBounds_toArray, List.set_cons_zero, List.set_cons_succ]
  refine wq_gen (v := ?_) (by kernel_rfl) ?_ ?_
  rotate_left
  · intro W hC
    go_simp
    try with_reducible rfl
  try simp only [Act.put, List.setIfInBounds_toArray, List.set_cons_zero, List.set_cons_succ]
  refine wq_gen (v := ?_) (by kernel_rfl) ?_ ?_
  rotate_left
  · intro W hC
    go_simp
    try with_reducible rfl
  try simp only [Act.put, List.setIfInBounds_toArray, List.set_cons_zero, List.set_cons_succ]
  refine wq_gen (v := ?_) (by kernel_rfl) ?_ ?_
  rotate_left
  · intro W hC
    go_simp
    try with_reducible rfl
  try simp only [Act.put, List.setIfInBounds_toArray, List.set_cons_zero, List.set_cons_succ]
  refine wq_call (f := 44) (args := #[.pointer (some ⟨w.heap.size, 0, none⟩)]) (v := .agg (u8s r.hash).toArray) (by kernel_rfl) (fun W hC => ?_) (fun W hC => ?_) ?_
  · go_simp
    try with_reducible rfl
  · exact (head_any _ _ _ _ _ W hC.1.2.1).mono (fun e W' h => ⟨h.1.trans (by rw [HHD.out]), ⟨bw_call hC.1.1 h.2, hC.1.2.1.below h.2, keep_row h.2 hC.1.2.2⟩, (h.2.cell (block_of_cell hC.2)).trans hC.2⟩)
  try simp only [Act.put, List.setIfInBounds_toArray, List.set_cons_zero, List.set_cons_succ]
  refine wq_gen (v := ?_) (by kernel_rfl) ?_ ?_
  rotate_left
  · intro W hC
    go_simp
    try with_reducible rfl
  try simp only [Act.put, List.setIfInBounds_toArray, List.set_cons_zero, List.set_cons_succ]
  refine wq_load (by kernel_rfl) 23 (.tmp 38) rfl b2 36 (u8s r.hash) _ rfl (fun W hC => range_row hC.1.2.2 (RC.at_hash HRW.out.prev)) Tryd.underlying23 rfl (hash_info HRW.out.hash) ?_
  try simp only [Act.put, List.setIfInBounds_toArray, List.set_cons_zero, List.set_cons_succ]
  refine wq_bin (by kernel_rfl) .eql 23 23 (.tmp 37) (.tmp 39) rfl (.agg (u8s r.hash).toArray) (.agg (u8s r.hash).toArray) (.bool true) rfl rfl (hash_eqG _ _ _ _ _) (fun w => (hash_eql HRW.out.hash HRW.out.hash w).trans (by rw [decide_eq_true (rfl : r.hash = r.hash)])) ?_
  try simp only [Act.put, List.setIfInBounds_toArray, List.set_cons_zero, List.set_cons_succ]
  refine wq_gen (v := ?_) (by kernel_rfl) ?_ ?_
  rotate_left
  · intro W hC
    go_simp
    try with_reducible rfl
  try simp only [Act.put, List.setIfInBounds_toArray, List.set_cons_zero, List.set_cons_succ]
  refine wq_gen (v := ?_) (by kernel_rfl) ?_ ?_
  rotate_left
  · intro W hC
    go_simp
    try with_reducible rfl
  try simp only [Act.put, List.setIfInBounds_toArray, List.set_cons_zero]
  refine wpQuiet_nil ?_
  intro w6 hC6
  have HB6 := Lib.hid hC6.1.1
  clear hC6
  go_wp2_with fail
  go_ret
  exact ⟨rfl, HB6.out⟩
end Go.Proofs.YtckfdmkjeocadaaDoor
