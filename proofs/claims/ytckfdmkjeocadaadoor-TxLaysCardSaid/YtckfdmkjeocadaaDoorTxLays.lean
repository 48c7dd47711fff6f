/- cavalcadelaw04.TxLays: what the call does (printed by mklays.py). -/
import Derived.Test.YtckfdmkjeocadaaDoorName
import Derived.Test.YtckfdmkjeocadaaDoorTxSigns
namespace Go.Proofs.YtckfdmkjeocadaaDoor
open Go.RowKit
set_option maxHeartbeats 4000000
set_option maxRecDepth 4000
theorem lays_any (t : TX) (w : World) (ht : t.wf) (hR : RoundsAt w) :
    Calls Tryd.prog 4 #[.agg t.cells.toArray] w fun e w' => e = .returned (.bool true) ∧ Below w.heap.size w w' := by
  have HT := Lib.hid ht
  have HR := Lib.hid hR
  have hA0 := Held.start w 25 t.cells
  have hg0 := hA0.row w.heap.size 25 t.cells (by simp)
  have HA0 := Lib.hid hA0
  obtain ⟨x, hx⟩ : ∃ x, x = t.textS := ⟨_, rfl⟩
  obtain ⟨b, hb⟩ : ∃ b, b = t.bodyS := ⟨_, rfl⟩
  obtain ⟨k, hk⟩ : ∃ k, k = t.chk := ⟨_, rfl⟩
  obtain ⟨r, hr⟩ : ∃ r, r = t.nameRes := ⟨_, rfl⟩
  have HRL : Hid (r.length = 32) := show _ = _ by rw [hr]; exact nameRes_length t
  have HX := Lib.hid hx
  have HB := Lib.hid hb
  have HK := Lib.hid hk
  have HN := Lib.hid hr
  clear hA0 ht hR hx hb hk hr
  go_enter Tryd.func4, Tryd.ntmps4
  go_wp2_with (with_reducible refine wpList_load_rows rfl 25 (.tmp 1) rfl w.heap.size 0 t.cells t.cells 25 (0, 0) _ rfl hg0 id_at Tryd.underlying25 rfl (tx_info HT.out) ?_)
  refine (body_any t _ HT.out).mono ?_
  rintro e w1 ⟨rfl, hb1⟩
  rw [← HK.out, ← HB.out]
  have HA1 := Lib.hid (HA0.out.call hb1)
  have hg1 := HA1.out.row w.heap.size 25 t.cells (by simp)
  clear hb1 hg0
  go_wp2_with (with_reducible refine wpList_load_rows rfl 25 (.tmp 1) rfl w.heap.size 0 t.cells t.cells 25 (0, 0) _ rfl hg1 id_at Tryd.underlying25 rfl (tx_info HT.out) ?_)
  refine (rbody_any t _ HT.out).mono ?_
  rintro e w2 ⟨rfl, hb2⟩
  rw [← HK.out, ← HB.out]
  have HA2 := Lib.hid (HA1.out.call hb2)
  have hg2 := HA2.out.row w.heap.size 25 t.cells (by simp)
  clear hb2 hg1
  go_wp2_with (with_reducible refine wpList_load_rows rfl 25 (.tmp 1) rfl w.heap.size 0 t.cells t.cells 25 (0, 0) _ rfl hg2 id_at Tryd.underlying25 rfl (tx_info HT.out) ?_)
  refine (ttext_any t _ HT.out).mono ?_
  rintro e w3 ⟨rfl, hb3⟩
  rw [← HK.out, ← HX.out]
  have HA3 := Lib.hid (HA2.out.call hb3)
  have hg3 := HA3.out.row w.heap.size 25 t.cells (by simp)
  clear hb3 hg2
  go_wp2_with (with_reducible refine wpList_load_rows rfl 25 (.tmp 1) rfl w.heap.size 0 t.cells t.cells 25 (0, 0) _ rfl hg3 id_at Tryd.underlying25 rfl (tx_info HT.out) ?_)
  refine (rtextS_any t _ HT.out).mono ?_
  rintro e w4 ⟨rfl, hb4⟩
  rw [← HK.out, ← HX.out]
  have HA4 := Lib.hid (HA3.out.call hb4)
  have hg4 := HA4.out.row w.heap.size 25 t.cells (by simp)
  clear hb4 hg3
  go_wp2_with (with_reducible refine wpList_load_rows rfl 25 (.tmp 1) rfl w.heap.size 0 t.cells t.cells 25 (0, 0) _ rfl hg4 id_at Tryd.underlying25 rfl (tx_info HT.out) ?_)
  refine (name_any t _ HT.out (HR.out.below HA4.out.1 HR.out.1)).mono ?_
  rintro e w5 ⟨rfl, hb5⟩
  rw [← HK.out, ← HN.out]
  have HA5 := Lib.hid (HA4.out.call hb5)
  have hz5 : (w5.alloc (.cells zl32.toArray 23)).heap[w5.heap.size]? = some (.cells (u8s z32).toArray 23 (0, 0)) := by rw [zl32_eq]; exact heap_alloc_new _ _
  clear hb5 hg4
  go_wp2_with (first
    | ((with_reducible refine wpList_store_whole rfl 23 (.tmp 11) (.tmp 38) rfl w5.heap.size (u8s r) (u8s z32) 23 rfl rfl hz5 (by rw [u8s_length, u8s_length, HRL.out, z32_length]) (hash_info HRL.out) (u8s_one _) ?_); intro w6 hU6; have HA6 := Lib.hid (HA5.out.add hU6.out); have hg6 := HA6.out.row w.heap.size 25 t.cells (by simp); clear hz5 hU6)
    | (with_reducible refine wpList_load_rows rfl 25 (.tmp 1) rfl w.heap.size 0 t.cells t.cells 25 (0, 0) _ rfl hg6 id_at Tryd.underlying25 rfl (tx_info HT.out) ?_))
  refine (rname_any t _ HT.out).mono ?_
  rintro e w7 ⟨rfl, hb7⟩
  rw [← HK.out, ← HN.out]
  have HA7 := Lib.hid (HA6.out.call hb7)
  have hz7 : (w7.alloc (.cells zl32.toArray 23)).heap[w7.heap.size]? = some (.cells (u8s z32).toArray 23 (0, 0)) := by rw [zl32_eq]; exact heap_alloc_new _ _
  clear hb7 hg6
  go_wp2_with ((with_reducible refine wpList_store_whole rfl 23 (.tmp 13) (.tmp 43) rfl w7.heap.size (u8s r) (u8s z32) 23 rfl rfl hz7 (by rw [u8s_length, u8s_length, HRL.out, z32_length]) (hash_info HRL.out) (u8s_one _) ?_); intro w8 hU8; have HA8 := Lib.hid (HA7.out.add hU8.out); have hg8 := HA8.out.row w.heap.size 25 t.cells (by simp); clear hz7 hU8)
  have HRW : Hid (∀ W', Held w W' [(w7.heap.size, 23, u8s r), (w5.heap.size, 23, u8s r), (w.heap.size, 25, t.cells)] → RoundsAt W') := show ∀ W', _ from fun W' h => HR.out.below h.1 HR.out.1
  clear hg8
  generalize w5.heap.size = b1 at *
  generalize w7.heap.size = b2 at *
  obtain ⟨L, hL⟩ : ∃ L, L = [(b2, 23, u8s r), (b1, 23, u8s r), (w.heap.size, 25, t.cells)] := ⟨_, rfl⟩
  rw [← hL] at HA8 HRW
  have KEEP : Hid (∀ W', Held w W' L → (Held w W' L ∧ W'.rangeAt w.heap.size 0 t.cells ∧ W'.rangeAt b1 0 (u8s r) ∧ W'.rangeAt b2 0 (u8s r))) := show ∀ W', _ from fun W' h => ⟨h, h.range _ 25 _ (by rw [hL]; simp), h.range _ 23 _ (by rw [hL]; simp), h.range _ 23 _ (by rw [hL]; simp)⟩
  clear hL
  have hu := Tryd.underlying25
  have hu2 := Tryd.underlying23
  have i0 := tx_info HT.out
  have i1 := hash_info HRL.out
  have heq := fun w => eq_hash HRL.out HRL.out w
  have hd : decide (r = r) = true := decide_eq_true rfl
  have hAL := HA8.out
  refine wp_region_held_drew (S := fun W' => Held w W' L ∧ W'.rangeAt w.heap.size 0 t.cells ∧ W'.rangeAt b1 0 (u8s r) ∧ W'.rangeAt b2 0 (u8s r)) (by kernel_rfl) (KEEP.out _ (hAL.call (Below.refl _ _).drew)) (fun hHeld => ?_)
  refine rg_one (i := 0) (by kernel_rfl) rfl (fun K hK => ?_)
  go_simp
  go_at_call 14
  refine (awake_any _ (HRW.out _ hHeld.1)).mono ?_
  rintro e v1 ⟨rfl, hb⟩
  go_wp2_with fail
  refine hK.out _ _ (KEEP.out _ (hHeld.1.call hb)) (fun hHeld1 => ?_)
  clear hK K
  try simp only [Act.put, List.setIfInBounds_toArray, List.set_cons_zero, List.set_cons_succ]
  refine rg_gen (i := 1) (v := ?_) rfl (by kernel_rfl) (by kernel_rfl) (by kernel_rfl) (fun _ _ _ h => h) rfl (by rfl) ?_ (by assumption) ?_
  rotate_left
  · intro w hSw
    try dsimp only at hSw
    go_simp
    try with_reducible rfl
  try simp only [Act.put, List.setIfInBounds_toArray, List.set_cons_zero, List.set_cons_succ]
  refine rg_row (i := 2) rfl (by kernel_rfl) (by kernel_rfl) (by kernel_rfl) (fun _ _ _ _ h => h) rfl (by rfl) 25 (.tmp 1) rfl w.heap.size 0 t.cells rfl (fun W h => h.2.1) hu rfl i0 (by assumption) ?_
  try simp only [Act.put, List.setIfInBounds_toArray, List.set_cons_zero, List.set_cons_succ]
  refine rg_row (i := 4) rfl (by kernel_rfl) (by kernel_rfl) (by kernel_rfl) (fun _ _ _ _ h => h) rfl (by rfl) 25 (.tmp 1) rfl w.heap.size 0 t.cells rfl (fun W h => h.2.1) hu rfl i0 (by assumption) ?_
  try simp only [Act.put, List.setIfInBounds_toArray, List.set_cons_zero, List.set_cons_succ]
  refine rg_one (i := 3) (by kernel_rfl) rfl (fun K hK => ?_)
  go_simp
  go_at_call 21
  refine (check_any t _ HT.out).mono ?_
  rintro e v2 ⟨rfl, hb⟩
  rw [← HK.out]
  go_wp2_with fail
  refine hK.out _ _ (KEEP.out _ (hHeld1.1.call hb)) (fun hHeld2 => ?_)
  clear hK K
  try simp only [Act.put, List.setIfInBounds_toArray, List.set_cons_zero, List.set_cons_succ]
  refine rg_one (i := 5) (by kernel_rfl) rfl (fun K hK => ?_)
  go_simp
  go_at_call 22
  refine (rcheck_any t _ HT.out).mono ?_
  rintro e v3 ⟨rfl, hb⟩
  rw [← HK.out]
  go_wp2_with fail
  refine hK.out _ _ (KEEP.out _ (hHeld2.1.call hb)) (fun hHeld3 => ?_)
  clear hK K
  try simp only [Act.put, List.setIfInBounds_toArray, List.set_cons_zero, List.set_cons_succ]
  refine rg_gen (i := 6) (v := ?_) rfl (by kernel_rfl) (by kernel_rfl) (by kernel_rfl) (fun _ _ _ h => h) rfl (by rfl) ?_ (by assumption) ?_
  rotate_left
  · intro w hSw
    try dsimp only at hSw
    go_simp
    try with_reducible rfl
  try simp only [Act.put, List.setIfInBounds_toArray, List.set_cons_zero, List.set_cons_succ]
  refine rg_gen (i := 7) (v := ?_) rfl (by kernel_rfl) (by kernel_rfl) (by kernel_rfl) (fun _ _ _ h => h) rfl (by rfl) ?_ (by assumption) ?_
  rotate_left
  · intro w hSw
    try dsimp only at hSw
    go_simp
    try with_reducible rfl
  try simp only [Act.put, List.setIfInBounds_toArray, List.set_cons_zero, List.set_cons_succ]
  refine rg_gen (i := 8) (v := ?_) rfl (by kernel_rfl) (by kernel_rfl) (by kernel_rfl) (fun _ _ _ h => h) rfl (by rfl) ?_ (by assumption) ?_
  rotate_left
  · intro w hSw
    try dsimp only at hSw
    go_simp
    try with_reducible rfl
  try simp only [Act.put, List.setIfInBounds_toArray, List.set_cons_zero, List.set_cons_succ]
  refine rg_gen (i := 9) (v := ?_) rfl (by kernel_rfl) (by kernel_rfl) (by kernel_rfl) (fun _ _ _ h => h) rfl (by rfl) ?_ (by assumption) ?_
  rotate_left
  · intro w hSw
    try dsimp only at hSw
    go_simp
    try with_reducible rfl
  try simp only [Act.put, List.setIfInBounds_toArray, List.set_cons_zero, List.set_cons_succ]
  refine rg_gen (i := 10) (v := ?_) rfl (by kernel_rfl) (by kernel_rfl) (by kernel_rfl) (fun _ _ _ h => h) rfl (by rfl) ?_ (by assumption) ?_
  rotate_left
  · intro w hSw
    try dsimp only at hSw
    go_simp
    try with_reducible rfl
  try simp only [Act.put, List.setIfInBounds_toArray, List.set_cons_zero, List.set_cons_succ]
  refine rg_gen (i := 11) (v := ?_) rfl (by kernel_rfl) (by kernel_rfl) (by kernel_rfl) (fun _ _ _ h => h) rfl (by rfl) ?_ (by assumption) ?_
  rotate_left
  · intro w hSw
    try dsimp only at hSw
    go_simp
    try with_reducible rfl
  try simp only [Act.put, List.setIfInBounds_toArray, List.set_cons_zero, List.set_cons_succ]
  refine rg_gen (i := 12) (v := ?_) rfl (by kernel_rfl) (by kernel_rfl) (by kernel_rfl) (fun _ _ _ h => h) rfl (by rfl) ?_ (by assumption) ?_
  rotate_left
  · intro w hSw
    try dsimp only at hSw
    go_simp
    try with_reducible rfl
  try simp only [Act.put, List.setIfInBounds_toArray, List.set_cons_zero, List.set_cons_succ]
  refine rg_gen (i := 13) (v := ?_) rfl (by kernel_rfl) (by kernel_rfl) (by kernel_rfl) (fun _ _ _ h => h) rfl (by rfl) ?_ (by assumption) ?_
  rotate_left
  · intro w hSw
    try dsimp only at hSw
    go_simp
    try with_reducible rfl
  try simp only [Act.put, List.setIfInBounds_toArray, List.set_cons_zero, List.set_cons_succ]
  refine rg_gen (i := 14) (v := ?_) rfl (by kernel_rfl) (by kernel_rfl) (by kernel_rfl) (fun _ _ _ h => h) rfl (by rfl) ?_ (by assumption) ?_
  rotate_left
  · intro w hSw
    try dsimp only at hSw
    go_simp
    try with_reducible rfl
  try simp only [Act.put, List.setIfInBounds_toArray, List.set_cons_zero, List.set_cons_succ]
  refine rg_gen (i := 15) (v := ?_) rfl (by kernel_rfl) (by kernel_rfl) (by kernel_rfl) (fun _ _ _ h => h) rfl (by rfl) ?_ (by assumption) ?_
  rotate_left
  · intro w hSw
    try dsimp only at hSw
    go_simp
    try with_reducible rfl
  try simp only [Act.put, List.setIfInBounds_toArray, List.set_cons_zero, List.set_cons_succ]
  refine rg_gen (i := 16) (v := ?_) rfl (by kernel_rfl) (by kernel_rfl) (by kernel_rfl) (fun _ _ _ h => h) rfl (by rfl) ?_ (by assumption) ?_
  rotate_left
  · intro w hSw
    try dsimp only at hSw
    go_simp
    try with_reducible rfl
  try simp only [Act.put, List.setIfInBounds_toArray, List.set_cons_zero, List.set_cons_succ]
  refine rg_gen (i := 17) (v := ?_) rfl (by kernel_rfl) (by kernel_rfl) (by kernel_rfl) (fun _ _ _ h => h) rfl (by rfl) ?_ (by assumption) ?_
  rotate_left
  · intro w hSw
    try dsimp only at hSw
    go_simp
    try with_reducible rfl
  try simp only [Act.put, List.setIfInBounds_toArray, List.set_cons_zero, List.set_cons_succ]
  refine rg_gen (i := 18) (v := ?_) rfl (by kernel_rfl) (by kernel_rfl) (by kernel_rfl) (fun _ _ _ h => h) rfl (by rfl) ?_ (by assumption) ?_
  rotate_left
  · intro w hSw
    try dsimp only at hSw
    go_simp
    try with_reducible rfl
  try simp only [Act.put, List.setIfInBounds_toArray, List.set_cons_zero, List.set_cons_succ]
  refine rg_gen (i := 19) (v := ?_) rfl (by kernel_rfl) (by kernel_rfl) (by kernel_rfl) (fun _ _ _ h => h) rfl (by rfl) ?_ (by assumption) ?_
  rotate_left
  · intro w hSw
    try dsimp only at hSw
    go_simp
    try with_reducible rfl
  try simp only [Act.put, List.setIfInBounds_toArray, List.set_cons_zero, List.set_cons_succ]
  refine rg_gen (i := 20) (v := ?_) rfl (by kernel_rfl) (by kernel_rfl) (by kernel_rfl) (fun _ _ _ h => h) rfl (by rfl) ?_ (by assumption) ?_
  rotate_left
  · intro w hSw
    try dsimp only at hSw
    go_simp
    try with_reducible rfl
  try simp only [Act.put, List.setIfInBounds_toArray, List.set_cons_zero, List.set_cons_succ]
  refine rg_gen (i := 21) (v := ?_) rfl (by kernel_rfl) (by kernel_rfl) (by kernel_rfl) (fun _ _ _ h => h) rfl (by rfl) ?_ (by assumption) ?_
  rotate_left
  · intro w hSw
    try dsimp only at hSw
    go_simp
    try with_reducible rfl
  try simp only [Act.put, List.setIfInBounds_toArray, List.set_cons_zero, List.set_cons_succ]
  refine rg_gen (i := 22) (v := ?_) rfl (by kernel_rfl) (by kernel_rfl) (by kernel_rfl) (fun _ _ _ h => h) rfl (by rfl) ?_ (by assumption) ?_
  rotate_left
  · intro w hSw
    try dsimp only at hSw
    go_simp
    try with_reducible rfl
  try simp only [Act.put, List.setIfInBounds_toArray, List.set_cons_zero, List.set_cons_succ]
  refine rg_gen (i := 23) (v := ?_) rfl (by kernel_rfl) (by kernel_rfl) (by kernel_rfl) (fun _ _ _ h => h) rfl (by rfl) ?_ (by assumption) ?_
  rotate_left
  · intro w hSw
    try dsimp only at hSw
    go_simp
    try with_reducible rfl
  try simp only [Act.put, List.setIfInBounds_toArray, List.set_cons_zero, List.set_cons_succ]
  refine rg_gen (i := 24) (v := ?_) rfl (by kernel_rfl) (by kernel_rfl) (by kernel_rfl) (fun _ _ _ h => h) rfl (by rfl) ?_ (by assumption) ?_
  rotate_left
  · intro w hSw
    try dsimp only at hSw
    go_simp
    try with_reducible rfl
  try simp only [Act.put, List.setIfInBounds_toArray, List.set_cons_zero, List.set_cons_succ]
  refine rg_gen (i := 25) (v := ?_) rfl (by kernel_rfl) (by kernel_rfl) (by kernel_rfl) (fun _ _ _ h => h) rfl (by rfl) ?_ (by assumption) ?_
  rotate_left
  · intro w hSw
    try dsimp only at hSw
    go_simp
    try with_reducible rfl
  try simp only [Act.put, List.setIfInBounds_toArray, List.set_cons_zero, List.set_cons_succ]
  refine rg_gen (i := 26) (v := ?_) rfl (by kernel_rfl) (by kernel_rfl) (by kernel_rfl) (fun _ _ _ h => h) rfl (by rfl) ?_ (by assumption) ?_
  rotate_left
  · intro w hSw
    try dsimp only at hSw
    go_simp
    try with_reducible rfl
  try simp only [Act.put, List.setIfInBounds_toArray, List.set_cons_zero, List.set_cons_succ]
  refine rg_gen (i := 27) (v := ?_) rfl (by kernel_rfl) (by kernel_rfl) (by kernel_rfl) (fun _ _ _ h => h) rfl (by rfl) ?_ (by assumption) ?_
  rotate_left
  · intro w hSw
    try dsimp only at hSw
    go_simp
    try with_reducible rfl
  try simp only [Act.put, List.setIfInBounds_toArray, List.set_cons_zero, List.set_cons_succ]
  refine rg_gen (i := 28) (v := ?_) rfl (by kernel_rfl) (by kernel_rfl) (by kernel_rfl) (fun _ _ _ h => h) rfl (by rfl) ?_ (by assumption) ?_
  rotate_left
  · intro w hSw
    try dsimp only at hSw
    go_simp
    try with_reducible rfl
  try simp only [Act.put, List.setIfInBounds_toArray, List.set_cons_zero, List.set_cons_succ]
  refine rg_row (i := 29) rfl (by kernel_rfl) (by kernel_rfl) (by kernel_rfl) (fun _ _ _ _ h => h) rfl (by rfl) 23 (.tmp 11) rfl b1 0 (u8s r) rfl (fun W h => h.2.2.1) hu2 rfl i1 (by assumption) ?_
  try simp only [Act.put, List.setIfInBounds_toArray, List.set_cons_zero, List.set_cons_succ]
  refine rg_row (i := 30) rfl (by kernel_rfl) (by kernel_rfl) (by kernel_rfl) (fun _ _ _ _ h => h) rfl (by rfl) 23 (.tmp 13) rfl b2 0 (u8s r) rfl (fun W h => h.2.2.2) hu2 rfl i1 (by assumption) ?_
  try simp only [Act.put, List.setIfInBounds_toArray, List.set_cons_zero, List.set_cons_succ]
  refine rg_gen (i := 31) (v := ?_) rfl (by kernel_rfl) (by kernel_rfl) (by kernel_rfl) (fun _ _ _ h => h) rfl (by rfl) ?_ (by assumption) ?_
  rotate_left
  · intro w hSw
    try dsimp only at hSw
    go_simp
    try with_reducible rfl
  try simp only [Act.put, List.setIfInBounds_toArray, List.set_cons_zero, List.set_cons_succ]
  refine rg_gen (i := 32) (v := ?_) rfl (by kernel_rfl) (by kernel_rfl) (by kernel_rfl) (fun _ _ _ h => h) rfl (by rfl) ?_ (by assumption) ?_
  rotate_left
  · intro w hSw
    try dsimp only at hSw
    go_simp
    try with_reducible rfl
  try simp only [Act.put, List.setIfInBounds_toArray, List.set_cons_zero, List.set_cons_succ]
  refine rg_gen (i := 33) (v := ?_) rfl (by kernel_rfl) (by kernel_rfl) (by kernel_rfl) (fun _ _ _ h => h) rfl (by rfl) ?_ (by assumption) ?_
  rotate_left
  · intro w hSw
    try dsimp only at hSw
    go_simp
    try with_reducible rfl
  try simp only [Act.put, List.setIfInBounds_toArray, List.set_cons_zero, List.set_cons_succ]
  refine rg_gen (i := 34) (v := ?_) rfl (by kernel_rfl) (by kernel_rfl) (by kernel_rfl) (fun _ _ _ h => h) rfl (by rfl) ?_ (by assumption) ?_
  rotate_left
  · intro w hSw
    try dsimp only at hSw
    go_simp
    try with_reducible rfl
  try simp only [Act.put, List.setIfInBounds_toArray, List.set_cons_zero, List.set_cons_succ]
  refine rg_gen (i := 35) (v := ?_) rfl (by kernel_rfl) (by kernel_rfl) (by kernel_rfl) (fun _ _ _ h => h) rfl (by rfl) ?_ (by assumption) ?_
  rotate_left
  · intro w hSw
    try dsimp only at hSw
    go_simp
    try with_reducible rfl
  try simp only [Act.put, List.setIfInBounds_toArray, List.set_cons_zero, List.set_cons_succ]
  refine rg_gen (i := 36) (v := ?_) rfl (by kernel_rfl) (by kernel_rfl) (by kernel_rfl) (fun _ _ _ h => h) rfl (by rfl) ?_ (by assumption) ?_
  rotate_left
  · intro w hSw
    try dsimp only at hSw
    go_simp
    try with_reducible rfl
  try simp only [Act.put, List.setIfInBounds_toArray, List.set_cons_zero, List.set_cons_succ]
  refine rg_gen (i := 37) (v := ?_) rfl (by kernel_rfl) (by kernel_rfl) (by kernel_rfl) (fun _ _ _ h => h) rfl (by rfl) ?_ (by assumption) ?_
  rotate_left
  · intro w hSw
    try dsimp only at hSw
    go_simp
    try with_reducible rfl
  try simp only [Act.put, List.setIfInBounds_toArray, List.set_cons_zero, List.set_cons_succ]
  refine rg_gen (i := 38) (v := ?_) rfl (by kernel_rfl) (by kernel_rfl) (by kernel_rfl) (fun _ _ _ h => h) rfl (by rfl) ?_ (by assumption) ?_
  rotate_left
  · intro w hSw
    try dsimp only at hSw
    go_simp
    try with_reducible rfl
  try simp only [Act.put, List.setIfInBounds_toArray, List.set_cons_zero, List.set_cons_succ]
  refine wpAnyH_done (by kernel_rfl) ?_ _
  go_wp2_with fail
  go_ret
  exact ⟨rfl, hHeld3.1.1⟩
end Go.Proofs.YtckfdmkjeocadaaDoor
