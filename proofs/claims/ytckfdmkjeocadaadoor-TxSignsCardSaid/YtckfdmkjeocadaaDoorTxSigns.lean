/- cavalcadelaw04.TxSigns: what the call does. -/
import Derived.Test.YtckfdmkjeocadaaDoorRSign
import Derived.Test.YtckfdmkjeocadaaDoorAwake04
import Derived.Deep.RegionHeld3
namespace Go.Proofs.YtckfdmkjeocadaaDoor
open Go.RowKit
set_option maxHeartbeats 4000000
set_option maxRecDepth 4000
theorem signRes_wf {t : TX} (h : t.wf) : t.signRes.wf := by
  unfold TX.signRes
  split
  · exact setTag_wf h (tagOf_length _ _ _)
  · exact TX.zero_wf
theorem handRes_wf {t : TX} (h : t.wf) (who : Int) : (t.handRes who).wf := by
  unfold TX.handRes
  split
  · exact lby_wf h (tagOf_length _ _ _)
  · exact TX.zero_wf
/-- rows that are known -/
def Held (w wr : World) (L : List (Nat × TypeId × List Value)) : Prop := Below w.heap.size w wr ∧ ∀ x ∈ L, wr.heap[x.1]? = some (.cells x.2.2.toArray x.2.1 (0, 0))
theorem Held.call {w wr w' : World} {L : List (Nat × TypeId × List Value)} (h : Held w wr L) (hb : Below wr.heap.size wr w') : Held w w' L :=
  ⟨bw_call h.1 hb, fun x hx => (hb.block _ (block_lt (h.2 x hx))).trans (h.2 x hx)⟩
theorem Held.add {w wr w' : World} {L : List (Nat × TypeId × List Value)} (h : Held w wr L) {o : Obj} {ty : TypeId} {cs : List Value} (hU : Upd (wr.alloc o) w' wr.heap.size (.cells cs.toArray ty (0, 0))) : Held w w' ((wr.heap.size, ty, cs) :: L) := by
  refine ⟨hU.below (bw_alloc h.1 o) h.1.size, fun x hx => ?_⟩
  rcases List.mem_cons.1 hx with rfl | hx
  · exact hU.at_
  · have hx2 := h.2 x hx
    exact (hU.other _ (Nat.ne_of_lt (block_lt hx2))).trans ((Below.heap_alloc _ _ _ (block_lt hx2)).trans hx2)
theorem Held.start (w : World) (ty : TypeId) (cs : List Value) : Held w (w.alloc (.cells cs.toArray ty)) [(w.heap.size, ty, cs)] :=
  ⟨bw_alloc (Below.refl _ _) _, fun x hx => by rw [List.mem_singleton.1 hx]; exact heap_alloc_new _ _⟩
theorem Held.row {w wr : World} {L : List (Nat × TypeId × List Value)} (h : Held w wr L) (b : Nat) (ty : TypeId) (cs : List Value) (hm : (b, ty, cs) ∈ L) : wr.heap[b]? = some (.cells cs.toArray ty (0, 0)) := h.2 _ hm
theorem Held.range {w wr : World} {L : List (Nat × TypeId × List Value)} (h : Held w wr L) (b : Nat) (ty : TypeId) (cs : List Value) (hm : (b, ty, cs) ∈ L) : wr.rangeAt b 0 cs := range_row (h.2 _ hm) id_at
theorem signs_any (t : TX) (who : Int) (w : World) (ht : t.wf) (hR : RoundsAt w) :
    Calls Tryd.prog 5 #[.agg t.cells.toArray, .int .i64 who] w fun e w' => e = .returned (.bool true) ∧ Below w.heap.size w w' := by
  have HT := Lib.hid ht
  have HR := Lib.hid hR
  have hA0 := Held.start w 25 t.cells
  have hg0 := hA0.row w.heap.size 25 t.cells (by simp)
  have HA0 := Lib.hid hA0
  obtain ⟨S, hS⟩ : ∃ S, S = t.signRes := ⟨_, rfl⟩
  obtain ⟨B, hB⟩ : ∃ B, B = t.handRes who := ⟨_, rfl⟩
  obtain ⟨k, hk⟩ : ∃ k, k = t.chk := ⟨_, rfl⟩
  obtain ⟨q, hq⟩ : ∃ q, q = t.handChk who := ⟨_, rfl⟩
  obtain ⟨sg, hsg⟩ : ∃ q, q = t.signed := ⟨_, rfl⟩
  have HSW : Hid S.wf := show _ by rw [hS]; exact signRes_wf ht
  have HBW : Hid B.wf := show _ by rw [hB]; exact handRes_wf ht who
  have HSL : Hid (S.cells.length = zlTx.length) := show _ = _ from S.cells_length HSW.out.by_ HSW.out.tag
  have HBL : Hid (B.cells.length = zlTx.length) := show _ = _ from B.cells_length HBW.out.by_ HBW.out.tag
  have HS := Lib.hid hS
  have HB := Lib.hid hB
  have HK := Lib.hid hk
  have HQ := Lib.hid hq
  have HSG := Lib.hid hsg
  clear hA0 ht hR hS hB hk hq hsg
  go_enter Tryd.func5, Tryd.ntmps5
  go_wp2_with (with_reducible refine wpList_load_rows rfl 25 (.tmp 2) rfl w.heap.size 0 t.cells t.cells 25 (0, 0) _ rfl hg0 id_at Tryd.underlying25 rfl (tx_info HT.out) ?_)
  refine (sign_any t _ HT.out (HR.out.below HA0.out.1 HR.out.1)).mono ?_
  rintro e w1 ⟨rfl, hb1⟩
  rw [← HS.out, ← HK.out]
  have HA1 := Lib.hid (HA0.out.call hb1)
  have hz1 : (w1.alloc (.cells Tryd.zeroCells25 25)).heap[w1.heap.size]? = some (.cells zlTx.toArray 25 (0, 0)) := heap_alloc_new w1 _
  clear hb1 hg0
  go_wp2_with (first
    | ((with_reducible refine wpList_store_whole rfl 25 (.tmp 5) (.tmp 16) rfl w1.heap.size S.cells zlTx 25 rfl rfl hz1 HSL.out (tx_info HSW.out) (start_one _) ?_); intro w2 hU2; have HA2 := Lib.hid (HA1.out.add hU2.out); have hg2 := HA2.out.row w.heap.size 25 t.cells (by simp); clear hz1 hU2)
    | (with_reducible refine wpList_load_rows rfl 25 (.tmp 2) rfl w.heap.size 0 t.cells t.cells 25 (0, 0) _ rfl hg2 id_at Tryd.underlying25 rfl (tx_info HT.out) ?_))
  refine (rsign_any t _ HT.out).mono ?_
  rintro e w3 ⟨rfl, hb3⟩
  rw [← HS.out, ← HK.out]
  have HA3 := Lib.hid (HA2.out.call hb3)
  have hz3 : (w3.alloc (.cells Tryd.zeroCells25 25)).heap[w3.heap.size]? = some (.cells zlTx.toArray 25 (0, 0)) := heap_alloc_new w3 _
  clear hb3 hg2
  go_wp2_with (first
    | ((with_reducible refine wpList_store_whole rfl 25 (.tmp 7) (.tmp 21) rfl w3.heap.size S.cells zlTx 25 rfl rfl hz3 HSL.out (tx_info HSW.out) (start_one _) ?_); intro w4 hU4; have HA4 := Lib.hid (HA3.out.add hU4.out); have hg4 := HA4.out.row w.heap.size 25 t.cells (by simp); clear hz3 hU4)
    | (with_reducible refine wpList_load_rows rfl 25 (.tmp 2) rfl w.heap.size 0 t.cells t.cells 25 (0, 0) _ rfl hg4 id_at Tryd.underlying25 rfl (tx_info HT.out) ?_))
  refine (hand_any t who _ HT.out (HR.out.below HA4.out.1 HR.out.1)).mono ?_
  rintro e w5 ⟨rfl, hb5⟩
  rw [← HB.out, ← HQ.out]
  have HA5 := Lib.hid (HA4.out.call hb5)
  have hz5 : (w5.alloc (.cells Tryd.zeroCells25 25)).heap[w5.heap.size]? = some (.cells zlTx.toArray 25 (0, 0)) := heap_alloc_new w5 _
  clear hb5 hg4
  go_wp2_with (first
    | ((with_reducible refine wpList_store_whole rfl 25 (.tmp 9) (.tmp 27) rfl w5.heap.size B.cells zlTx 25 rfl rfl hz5 HBL.out (tx_info HBW.out) (start_one _) ?_); intro w6 hU6; have HA6 := Lib.hid (HA5.out.add hU6.out); have hg6 := HA6.out.row w.heap.size 25 t.cells (by simp); clear hz5 hU6)
    | (with_reducible refine wpList_load_rows rfl 25 (.tmp 2) rfl w.heap.size 0 t.cells t.cells 25 (0, 0) _ rfl hg6 id_at Tryd.underlying25 rfl (tx_info HT.out) ?_))
  refine (rhand_any t who _ HT.out).mono ?_
  rintro e w7 ⟨rfl, hb7⟩
  rw [← HB.out, ← HQ.out]
  have HA7 := Lib.hid (HA6.out.call hb7)
  have hz7 : (w7.alloc (.cells Tryd.zeroCells25 25)).heap[w7.heap.size]? = some (.cells zlTx.toArray 25 (0, 0)) := heap_alloc_new w7 _
  clear hb7 hg6
  go_wp2_with ((with_reducible refine wpList_store_whole rfl 25 (.tmp 11) (.tmp 33) rfl w7.heap.size B.cells zlTx 25 rfl rfl hz7 HBL.out (tx_info HBW.out) (start_one _) ?_); intro w8 hU8; have HA8 := Lib.hid (HA7.out.add hU8.out); clear hz7 hU8)
  have HRW : Hid (∀ W', Held w W' [(w7.heap.size, 25, B.cells), (w5.heap.size, 25, B.cells), (w3.heap.size, 25, S.cells), (w1.heap.size, 25, S.cells), (w.heap.size, 25, t.cells)] → RoundsAt W') := show ∀ W', _ from fun W' h => HR.out.below h.1 HR.out.1
  generalize w1.heap.size = b1 at *
  generalize w3.heap.size = b2 at *
  generalize w5.heap.size = b3 at *
  generalize w7.heap.size = b4 at *
  obtain ⟨L, hL⟩ : ∃ L, L = [(b4, 25, B.cells), (b3, 25, B.cells), (b2, 25, S.cells), (b1, 25, S.cells), (w.heap.size, 25, t.cells)] := ⟨_, rfl⟩
  rw [← hL] at HA8 HRW
  have KEEP : Hid (∀ W', Held w W' L → (Held w W' L ∧ W'.rangeAt w.heap.size 0 t.cells ∧ W'.rangeAt b1 0 S.cells ∧ W'.rangeAt b2 0 S.cells ∧ W'.rangeAt b3 0 B.cells ∧ W'.rangeAt b4 0 B.cells)) := show ∀ W', _ from fun W' h => ⟨h, h.range _ 25 _ (by rw [hL]; simp), h.range _ 25 _ (by rw [hL]; simp), h.range _ 25 _ (by rw [hL]; simp), h.range _ 25 _ (by rw [hL]; simp), h.range _ 25 _ (by rw [hL]; simp)⟩
  clear hL
  have hu := Tryd.underlying25
  have i0 := tx_info HT.out
  have i1 := tx_info HSW.out
  have i2 := tx_info HBW.out
  have q1 : ∀ w, (Op.equalIn 10000 25 (.agg S.cells.toArray) (.agg S.cells.toArray)).run Tryd.prog w = .ok true w := fun w => by rw [tx_eq HSW.out HSW.out, decide_eq_true (rfl : S = S)]
  have q2 : ∀ w, (Op.equalIn 10000 25 (.agg B.cells.toArray) (.agg B.cells.toArray)).run Tryd.prog w = .ok true w := fun w => by rw [tx_eq HBW.out HBW.out, decide_eq_true (rfl : B = B)]
  have hA8 := HA8.out
  refine wp_region_held_drew (S := fun W' => Held w W' L ∧ W'.rangeAt w.heap.size 0 t.cells ∧ W'.rangeAt b1 0 S.cells ∧ W'.rangeAt b2 0 S.cells ∧ W'.rangeAt b3 0 B.cells ∧ W'.rangeAt b4 0 B.cells) (by kernel_rfl) (KEEP.out _ (hA8.call (Below.refl _ _).drew)) (fun hHeld => ?_)
  refine rg_one (i := 0) (by kernel_rfl) rfl (fun K hK => ?_)
  go_simp
  go_at_call 14
  refine (awake_any _ (HRW.out _ hHeld.1)).mono ?_
  rintro e w9 ⟨rfl, hb⟩
  go_wp2_with fail
  refine hK.out _ _ (KEEP.out _ (hHeld.1.call hb)) (fun hHeld1 => ?_)
  clear hK K
  try simp only [Act.put, List.setIfInBounds_toArray, List.set_cons_zero, List.set_cons_succ]
  refine rg_gen (i := 1) (v := ?_) rfl (by kernel_rfl) (by kernel_rfl) (by kernel_rfl) (fun _ _ _ h => h) rfl (by rfl) ?_ (by assumption) ?_
  rotate_left
  · intro w hSw
    try dsimp only at hSw
    go_simp
    try with_reducible rfl
  try simp only [Act.put, List.setIfInBounds_toArray, List.set_cons_zero, List.set_cons_succ]
  refine rg_row (i := 2) rfl (by kernel_rfl) (by kernel_rfl) (by kernel_rfl) (fun _ _ _ _ h => h) rfl (by rfl) 25 (.tmp 5) rfl b1 0 S.cells rfl (fun W h => h.2.2.1) hu rfl i1 (by assumption) ?_
  try simp only [Act.put, List.setIfInBounds_toArray, List.set_cons_zero, List.set_cons_succ]
  refine rg_row (i := 3) rfl (by kernel_rfl) (by kernel_rfl) (by kernel_rfl) (fun _ _ _ _ h => h) rfl (by rfl) 25 (.tmp 7) rfl b2 0 S.cells rfl (fun W h => h.2.2.2.1) hu rfl i1 (by assumption) ?_
  try simp only [Act.put, List.setIfInBounds_toArray, List.set_cons_zero, List.set_cons_succ]
  refine rg_gen (i := 4) (v := ?_) rfl (by kernel_rfl) (by kernel_rfl) (by kernel_rfl) (fun _ _ _ h => h) rfl (by rfl) ?_ (by assumption) ?_
  rotate_left
  · intro w hSw
    try dsimp only at hSw
    go_simp
    try with_reducible rfl
  try simp only [Act.put, List.setIfInBounds_toArray, List.set_cons_zero, List.set_cons_succ]
  refine rg_gen (i := 5) (v := ?_) rfl (by kernel_rfl) (by kernel_rfl) (by kernel_rfl) (fun _ _ _ h => h) rfl (by rfl) ?_ (by assumption) ?_
  rotate_left
  · intro w hSw
    try dsimp only at hSw
    go_simp
    try with_reducible rfl
  try simp only [Act.put, List.setIfInBounds_toArray, List.set_cons_zero, List.set_cons_succ]
  refine rg_gen (i := 6) (v := ?_) rfl (by kernel_rfl) (by kernel_rfl) (by kernel_rfl) (fun _ _ _ h => h) rfl (by rfl) ?_ (by assumption) ?_
  rotate_left
  · intro w hSw
    try dsimp only at hSw
    go_simp
    try with_reducible rfl
  try simp only [Act.put, List.setIfInBounds_toArray, List.set_cons_zero, List.set_cons_succ]
  refine rg_gen (i := 7) (v := ?_) rfl (by kernel_rfl) (by kernel_rfl) (by kernel_rfl) (fun _ _ _ h => h) rfl (by rfl) ?_ (by assumption) ?_
  rotate_left
  · intro w hSw
    try dsimp only at hSw
    go_simp
    try with_reducible rfl
  try simp only [Act.put, List.setIfInBounds_toArray, List.set_cons_zero, List.set_cons_succ]
  refine rg_gen (i := 8) (v := ?_) rfl (by kernel_rfl) (by kernel_rfl) (by kernel_rfl) (fun _ _ _ h => h) rfl (by rfl) ?_ (by assumption) ?_
  rotate_left
  · intro w hSw
    try dsimp only at hSw
    go_simp
    try with_reducible rfl
  try simp only [Act.put, List.setIfInBounds_toArray, List.set_cons_zero, List.set_cons_succ]
  refine rg_gen (i := 9) (v := ?_) rfl (by kernel_rfl) (by kernel_rfl) (by kernel_rfl) (fun _ _ _ h => h) rfl (by rfl) ?_ (by assumption) ?_
  rotate_left
  · intro w hSw
    try dsimp only at hSw
    go_simp
    try with_reducible rfl
  try simp only [Act.put, List.setIfInBounds_toArray, List.set_cons_zero, List.set_cons_succ]
  refine rg_gen (i := 10) (v := ?_) rfl (by kernel_rfl) (by kernel_rfl) (by kernel_rfl) (fun _ _ _ h => h) rfl (by rfl) ?_ (by assumption) ?_
  rotate_left
  · intro w hSw
    try dsimp only at hSw
    go_simp
    try with_reducible rfl
  try simp only [Act.put, List.setIfInBounds_toArray, List.set_cons_zero, List.set_cons_succ]
  refine rg_gen (i := 11) (v := ?_) rfl (by kernel_rfl) (by kernel_rfl) (by kernel_rfl) (fun _ _ _ h => h) rfl (by rfl) ?_ (by assumption) ?_
  rotate_left
  · intro w hSw
    try dsimp only at hSw
    go_simp
    try with_reducible rfl
  try simp only [Act.put, List.setIfInBounds_toArray, List.set_cons_zero, List.set_cons_succ]
  refine rg_row (i := 12) rfl (by kernel_rfl) (by kernel_rfl) (by kernel_rfl) (fun _ _ _ _ h => h) rfl (by rfl) 25 (.tmp 9) rfl b3 0 B.cells rfl (fun W h => h.2.2.2.2.1) hu rfl i2 (by assumption) ?_
  try simp only [Act.put, List.setIfInBounds_toArray, List.set_cons_zero, List.set_cons_succ]
  refine rg_row (i := 13) rfl (by kernel_rfl) (by kernel_rfl) (by kernel_rfl) (fun _ _ _ _ h => h) rfl (by rfl) 25 (.tmp 11) rfl b4 0 B.cells rfl (fun W h => h.2.2.2.2.2) hu rfl i2 (by assumption) ?_
  try simp only [Act.put, List.setIfInBounds_toArray, List.set_cons_zero, List.set_cons_succ]
  refine rg_gen (i := 14) (v := ?_) rfl (by kernel_rfl) (by kernel_rfl) (by kernel_rfl) (fun _ _ _ h => h) rfl (by rfl) ?_ (by assumption) ?_
  rotate_left
  · intro w hSw
    try dsimp only at hSw
    go_simp
    try with_reducible rfl
  try simp only [Act.put, List.setIfInBounds_toArray, List.set_cons_zero, List.set_cons_succ]
  refine rg_gen (i := 15) (v := ?_) rfl (by kernel_rfl) (by kernel_rfl) (by kernel_rfl) (fun _ _ _ h => h) rfl (by rfl) ?_ (by assumption) ?_
  rotate_left
  · intro w hSw
    try dsimp only at hSw
    go_simp
    try with_reducible rfl
  try simp only [Act.put, List.setIfInBounds_toArray, List.set_cons_zero, List.set_cons_succ]
  refine rg_gen (i := 16) (v := ?_) rfl (by kernel_rfl) (by kernel_rfl) (by kernel_rfl) (fun _ _ _ h => h) rfl (by rfl) ?_ (by assumption) ?_
  rotate_left
  · intro w hSw
    try dsimp only at hSw
    go_simp
    try with_reducible rfl
  try simp only [Act.put, List.setIfInBounds_toArray, List.set_cons_zero, List.set_cons_succ]
  refine rg_gen (i := 17) (v := ?_) rfl (by kernel_rfl) (by kernel_rfl) (by kernel_rfl) (fun _ _ _ h => h) rfl (by rfl) ?_ (by assumption) ?_
  rotate_left
  · intro w hSw
    try dsimp only at hSw
    go_simp
    try with_reducible rfl
  try simp only [Act.put, List.setIfInBounds_toArray, List.set_cons_zero, List.set_cons_succ]
  refine rg_gen (i := 18) (v := ?_) rfl (by kernel_rfl) (by kernel_rfl) (by kernel_rfl) (fun _ _ _ h => h) rfl (by rfl) ?_ (by assumption) ?_
  rotate_left
  · intro w hSw
    try dsimp only at hSw
    go_simp
    try with_reducible rfl
  try simp only [Act.put, List.setIfInBounds_toArray, List.set_cons_zero, List.set_cons_succ]
  refine rg_gen (i := 19) (v := ?_) rfl (by kernel_rfl) (by kernel_rfl) (by kernel_rfl) (fun _ _ _ h => h) rfl (by rfl) ?_ (by assumption) ?_
  rotate_left
  · intro w hSw
    try dsimp only at hSw
    go_simp
    try with_reducible rfl
  try simp only [Act.put, List.setIfInBounds_toArray, List.set_cons_zero, List.set_cons_succ]
  refine rg_gen (i := 20) (v := ?_) rfl (by kernel_rfl) (by kernel_rfl) (by kernel_rfl) (fun _ _ _ h => h) rfl (by rfl) ?_ (by assumption) ?_
  rotate_left
  · intro w hSw
    try dsimp only at hSw
    go_simp
    try with_reducible rfl
  try simp only [Act.put, List.setIfInBounds_toArray, List.set_cons_zero, List.set_cons_succ]
  refine rg_gen (i := 21) (v := ?_) rfl (by kernel_rfl) (by kernel_rfl) (by kernel_rfl) (fun _ _ _ h => h) rfl (by rfl) ?_ (by assumption) ?_
  rotate_left
  · intro w hSw
    try dsimp only at hSw
    go_simp
    try with_reducible rfl
  try simp only [Act.put, List.setIfInBounds_toArray, List.set_cons_zero, List.set_cons_succ]
  refine rg_row (i := 22) rfl (by kernel_rfl) (by kernel_rfl) (by kernel_rfl) (fun _ _ _ _ h => h) rfl (by rfl) 25 (.tmp 2) rfl w.heap.size 0 t.cells rfl (fun W h => h.2.1) hu rfl i0 (by assumption) ?_
  try simp only [Act.put, List.setIfInBounds_toArray, List.set_cons_zero, List.set_cons_succ]
  refine rg_row (i := 24) rfl (by kernel_rfl) (by kernel_rfl) (by kernel_rfl) (fun _ _ _ _ h => h) rfl (by rfl) 25 (.tmp 2) rfl w.heap.size 0 t.cells rfl (fun W h => h.2.1) hu rfl i0 (by assumption) ?_
  try simp only [Act.put, List.setIfInBounds_toArray, List.set_cons_zero, List.set_cons_succ]
  refine rg_one (i := 23) (by kernel_rfl) rfl (fun K hK => ?_)
  go_simp
  go_at_call 27
  refine (signed_any t _ HT.out (HRW.out _ hHeld1.1)).mono ?_
  rintro e w10 ⟨rfl, hb⟩
  rw [← HSG.out]
  go_wp2_with fail
  refine hK.out _ _ (KEEP.out _ (hHeld1.1.call hb)) (fun hHeld2 => ?_)
  clear hK K
  try simp only [Act.put, List.setIfInBounds_toArray, List.set_cons_zero, List.set_cons_succ]
  refine rg_one (i := 25) (by kernel_rfl) rfl (fun K hK => ?_)
  go_simp
  go_at_call 28
  refine (rsigned_any t _ HT.out).mono ?_
  rintro e w11 ⟨rfl, hb⟩
  rw [← HSG.out]
  go_wp2_with fail
  refine hK.out _ _ (KEEP.out _ (hHeld2.1.call hb)) (fun hHeld3 => ?_)
  clear hK K
  try simp only [Act.put, List.setIfInBounds_toArray, List.set_cons_zero, List.set_cons_succ]
  refine rg_gen (i := 26) (v := ?_) rfl (by kernel_rfl) (by kernel_rfl) (by kernel_rfl) (fun _ _ _ h => h) rfl (by rfl) ?_ (by assumption) ?_
  rotate_left
  · intro w hSw
    try dsimp only at hSw
    go_simp
    try with_reducible rfl
  try simp only [Act.put, List.setIfInBounds_toArray, List.set_cons_zero, List.set_cons_succ]
  refine rg_gen (i := 27) (v := ?_) rfl (by kernel_rfl) (by kernel_rfl) (by kernel_rfl) (fun _ _ _ h => h) rfl (by rfl) ?_ (by assumption) ?_
  rotate_left
  · intro w hSw
    try dsimp only at hSw
    go_simp
    try with_reducible rfl
  try simp only [Act.put, List.setIfInBounds_toArray, List.set_cons_zero, List.set_cons_succ]
  refine rg_gen (i := 28) (v := ?_) rfl (by kernel_rfl) (by kernel_rfl) (by kernel_rfl) (fun _ _ _ h => h) rfl (by rfl) ?_ (by assumption) ?_
  rotate_left
  · intro w hSw
    try dsimp only at hSw
    go_simp
    try with_reducible rfl
  try simp only [Act.put, List.setIfInBounds_toArray, List.set_cons_zero, List.set_cons_succ]
  refine wpAnyH_done (by kernel_rfl) ?_ _
  go_wp2_with fail
  go_ret
  exact ⟨rfl, hHeld3.1.1⟩
end Go.Proofs.YtckfdmkjeocadaaDoor
