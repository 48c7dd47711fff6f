/- The reference's Text, Name of a transaction, tx.Name: what the calls do. -/
import Derived.Test.YtckfdmkjeocadaaDoorRTx
import Derived.Test.YtckfdmkjeocadaaDoorLaw04
import Derived.Deep.RegionHeld3
namespace Go.Proofs.YtckfdmkjeocadaaDoor
open Go.RowKit
set_option maxHeartbeats 1000000
set_option maxRecDepth 4000
theorem rtextS_any (t : TX) (w : World) (ht : t.wf) :
    Calls Tryd.prog 18 #[.agg t.cells.toArray] w fun e w' => e = .returned (.tuple #[.string t.textS, .int .i64 t.chk]) ∧ Below w.heap.size w w' := by
  have HT := Lib.hid ht
  have hA0 := TxAt.start w t
  have hg0 := hA0.2
  have HA0 := Lib.hid hA0
  clear hA0 ht
  obtain ⟨k, hk⟩ : ∃ k, k = t.chk := ⟨_, rfl⟩
  obtain ⟨x, hx⟩ : ∃ x, x = t.textS := ⟨_, rfl⟩
  obtain ⟨b, hb⟩ : ∃ b, b = t.bodyS := ⟨_, rfl⟩
  have HK := Lib.hid hk
  have HXS := Lib.hid hx
  have HBS := Lib.hid hb
  rw [← hx, ← hk]
  clear hb hx
  have hlt : w.heap.size < (w.alloc (.cells t.cells.toArray 25)).heap.size := by simp
  by_cases hk0 : k = 0
  · subst hk0
    have hck : t.chk = 0 := hk.symm
    have hxs : x = bstr t.text := by rw [HXS.out, TX.textS, if_pos hck]
    have hbs : b = bstr t.body := by rw [HBS.out, TX.bodyS, if_pos hck]
    have HXX := Lib.hid hxs
    have HBB := Lib.hid hbs
    have HCK := Lib.hid hck
    have htot := Nat.le_trans (TX.tparts_tot hck HT.out) (show 500 ≤ 65536 by decide)
    have hpl := Nat.le_trans (TX.tparts_length (t := t)) (show 3 ≤ 1024 by decide)
    clear hk hck hxs hbs
    cases hln : t.lane
    · have HLN := Lib.hid hln
      have h5 : t.cells[5]? = some (.bool false) := by rw [← HLN.out]; rfl
      clear hln
      go_enter Tryd.func18, Tryd.ntmps18
      go_wp2_with (with_reducible refine wpList_load_rows rfl 25 (.tmp 1) rfl w.heap.size 0 t.cells t.cells 25 (0, 0) _ rfl hg0 id_at Tryd.underlying25 rfl (tx_info HT.out) ?_)
      refine (rbody_any t _ HT.out).mono ?_
      rintro e w1 ⟨rfl, hb1⟩
      rw [← HK.out, ← HBS.out]
      have hA1 := HA0.out.below hb1 hlt (bw_call HA0.out.1 hb1)
      have hc5 := hA1.cell 5 _ h5
      have hg1 := hA1.2
      have HA1 := Lib.hid hA1
      clear hA1 hb1 hg0
      go_wp2_with (with_reducible refine wpList_load_rows rfl 23 (.tmp 28) rfl w.heap.size 40 (u8s t.tag) t.cells 25 (0, 0) _ rfl hg1 (TX.at_tag HT.out.by_) Tryd.underlying23 rfl (hash_info HT.out.tag) ?_)
      refine (rbytes_any t.tag _ HT.out.tag).mono ?_
      rintro e w2 ⟨rfl, hb2⟩
      have HB2 := Lib.hid (bw_call HA1.out.1 hb2)
      have hO2 : (w2.alloc (.cells (strs [b, bstr t.tag]).toArray 9)).ownsRow w2.heap.size 9 1 (.slice (some ⟨w2.heap.size, 0, none⟩) 2 2) 2 (strs [b, bstr t.tag]) := own_all rfl (by unfold maxLen; omega)
      have hp : strs [b, bstr t.tag] = t.tparts.map Value.string := by rw [TX.tparts, if_neg (by rw [HLN.out]; decide), HBB.out]; rfl
      have hrd : RdStrs (w2.alloc (.cells #[.string b, .string (bstr t.tag)] 9)) (.slice (some ⟨w2.heap.size, 0, none⟩) 2 2) t.tparts := RdStrs.of_own (n := 2) (by rw [← hp]; exact hO2) (by omega) (by simp)
      clear hb2 hO2 hp
      go_wp2_with fail
      refine (rlist_ok _ t.tparts _ hrd hpl htot).mono ?_
      rintro e w5 ⟨rfl, hb5⟩
      have HB5 := Lib.hid (bw_call (bw_alloc HB2.out _) hb5)
      clear hb5
      go_wp2_with fail
      go_ret2
      exact ⟨by rw [HXX.out]; rfl, HB5.out⟩
    · have HLN := Lib.hid hln
      have h5 : t.cells[5]? = some (.bool true) := by rw [← HLN.out]; rfl
      clear hln
      have KEEP : Hid (∀ W', TxAt w W' t → (TxAt w W' t ∧ W'.rangeAt w.heap.size 40 (u8s t.tag) ∧ W'.rangeAt w.heap.size 8 (u8s t.by_))) := show ∀ W', _ from fun W' h => ⟨h, range_row h.2 (TX.at_tag HT.out.by_), range_row h.2 TX.at_by⟩
      go_enter Tryd.func18, Tryd.ntmps18
      go_wp2_with (with_reducible refine wpList_load_rows rfl 25 (.tmp 1) rfl w.heap.size 0 t.cells t.cells 25 (0, 0) _ rfl hg0 id_at Tryd.underlying25 rfl (tx_info HT.out) ?_)
      refine (rbody_any t _ HT.out).mono ?_
      rintro e w1 ⟨rfl, hb1⟩
      rw [← HK.out, ← HBS.out]
      have hA1 := HA0.out.below hb1 hlt (bw_call HA0.out.1 hb1)
      have hc5 := hA1.cell 5 _ h5
      have HA1 := Lib.hid hA1
      clear hb1 hg0
      have hu := Tryd.underlying23
      have i1 : (Tryd.prog.info? 23).map (·.size) = some (u8s t.tag).length := hash_info HT.out.tag
      have i2 : (Tryd.prog.info? 23).map (·.size) = some (u8s t.by_).length := hash_info HT.out.by_
      go_wp2_with fail
      refine wp_region_held_drew (S := fun W' => TxAt w W' t ∧ W'.rangeAt w.heap.size 40 (u8s t.tag) ∧ W'.rangeAt w.heap.size 8 (u8s t.by_)) (by kernel_rfl) (KEEP.out _ (keepTx hA1 (Below.refl _ _).drew)) (fun hHeld => ?_)
      refine rg_gen (i := 0) (v := ?_) rfl (by kernel_rfl) (by kernel_rfl) (by kernel_rfl) (fun _ _ _ h => h) rfl (by rfl) ?_ (by assumption) ?_
      rotate_left
      · intro w hSw
        try dsimp only at hSw
        go_simp
        try with_reducible rfl
      try simp only [Act.put, List.setIfInBounds_toArray, List.set_cons_zero, List.set_cons_succ]
      refine rg_gen (i := 1) (v := ?_) rfl (by kernel_rfl) (by kernel_rfl) (by kernel_rfl) (fun _ _ _ h => h) rfl (by rfl) ?_ (by assumption) ?_
      rotate_left
      · intro w hSw
        try dsimp only at hSw
        go_simp
        try with_reducible rfl
      try simp only [Act.put, List.setIfInBounds_toArray, List.set_cons_zero, List.set_cons_succ]
      refine rg_gen (i := 4) (v := ?_) rfl (by kernel_rfl) (by kernel_rfl) (by kernel_rfl) (fun _ _ _ h => h) rfl (by rfl) ?_ (by assumption) ?_
      rotate_left
      · intro w hSw
        try dsimp only at hSw
        go_simp
        try with_reducible rfl
      try simp only [Act.put, List.setIfInBounds_toArray, List.set_cons_zero, List.set_cons_succ]
      refine rg_row (i := 2) rfl (by kernel_rfl) (by kernel_rfl) (by kernel_rfl) (fun _ _ _ _ h => h) rfl (by rfl) 23 (.tmp 17) rfl w.heap.size 40 (u8s t.tag) rfl (fun W h => h.2.1) hu rfl i1 (by assumption) ?_
      try simp only [Act.put, List.setIfInBounds_toArray, List.set_cons_zero, List.set_cons_succ]
      refine rg_row (i := 5) rfl (by kernel_rfl) (by kernel_rfl) (by kernel_rfl) (fun _ _ _ _ h => h) rfl (by rfl) 23 (.tmp 20) rfl w.heap.size 8 (u8s t.by_) rfl (fun W h => h.2.2) hu rfl i2 (by assumption) ?_
      try simp only [Act.put, List.setIfInBounds_toArray, List.set_cons_zero, List.set_cons_succ]
      refine rg_one (i := 3) (by kernel_rfl) rfl (fun K hK => ?_)
      go_simp
      go_at_call 64
      refine (rbytes_any t.tag _ HT.out.tag).mono ?_
      rintro e w2 ⟨rfl, hb⟩
      go_wp2_with fail
      refine hK.out _ _ (KEEP.out _ (keepTx hHeld.1 hb)) (fun hHeld1 => ?_)
      clear hK K
      try simp only [Act.put, List.setIfInBounds_toArray, List.set_cons_zero, List.set_cons_succ]
      refine rg_one (i := 6) (by kernel_rfl) rfl (fun K hK => ?_)
      go_simp
      go_at_call 64
      refine (rbytes_any t.by_ _ HT.out.by_).mono ?_
      rintro e w3 ⟨rfl, hb⟩
      go_wp2_with fail
      refine hK.out _ _ (KEEP.out _ (keepTx hHeld1.1 hb)) (fun hHeld2 => ?_)
      clear hK K
      try simp only [Act.put, List.setIfInBounds_toArray, List.set_cons_zero, List.set_cons_succ]
      refine rg_one (i := 7) (by kernel_rfl) rfl (fun K hK => ?_)
      go_simp
      refine hK.out _ _ (KEEP.out _ (keepTx hHeld2.1 (bw_alloc (Below.refl _ _) _))) (fun hHeld3 => ?_)
      clear hK K
      try simp only [Act.put, List.setIfInBounds_toArray, List.set_cons_zero, List.set_cons_succ]
      refine rg_one (i := 8) (by kernel_rfl) rfl (fun K hK => ?_)
      go_simp
      go_at_call 63
      refine (rlist_ok _ t.tparts _ (show RdStrs (w3.alloc (.cells (strs [b, bstr t.tag, bstr t.by_]).toArray 9)) (.slice (some ⟨w3.heap.size, 0, none⟩) 3 3) t.tparts from RdStrs.of_own (n := 3) (by rw [show t.tparts.map Value.string = strs [b, bstr t.tag, bstr t.by_] by rw [TX.tparts, if_pos HLN.out, HBB.out]; rfl]; exact own_all rfl (by unfold maxLen; omega)) (by omega) (by simp)) hpl htot).mono ?_
      rintro e w4 ⟨rfl, hb⟩
      go_wp2_with fail
      refine hK.out _ _ (KEEP.out _ (keepTx hHeld3.1 hb)) (fun hHeld4 => ?_)
      clear hK K
      try simp only [Act.put, List.setIfInBounds_toArray, List.set_cons_zero, List.set_cons_succ]
      refine rg_gen (i := 9) (v := ?_) rfl (by kernel_rfl) (by kernel_rfl) (by kernel_rfl) (fun _ _ _ h => h) rfl (by rfl) ?_ (by assumption) ?_
      rotate_left
      · intro w hSw
        try dsimp only at hSw
        go_simp
        try with_reducible rfl
      try simp only [Act.put, List.setIfInBounds_toArray, List.set_cons_zero, List.set_cons_succ]
      refine rg_gen (i := 10) (v := ?_) rfl (by kernel_rfl) (by kernel_rfl) (by kernel_rfl) (fun _ _ _ h => h) rfl (by rfl) ?_ (by assumption) ?_
      rotate_left
      · intro w hSw
        try dsimp only at hSw
        go_simp
        try with_reducible rfl
      try simp only [Act.put, List.setIfInBounds_toArray, List.set_cons_zero, List.set_cons_succ]
      refine rg_gen (i := 11) (v := ?_) rfl (by kernel_rfl) (by kernel_rfl) (by kernel_rfl) (fun _ _ _ h => h) rfl (by rfl) ?_ (by assumption) ?_
      rotate_left
      · intro w hSw
        try dsimp only at hSw
        go_simp
        try with_reducible rfl
      try simp only [Act.put, List.setIfInBounds_toArray, List.set_cons_zero, List.set_cons_succ]
      refine rg_gen (i := 12) (v := ?_) rfl (by kernel_rfl) (by kernel_rfl) (by kernel_rfl) (fun _ _ _ h => h) rfl (by rfl) ?_ (by assumption) ?_
      rotate_left
      · intro w hSw
        try dsimp only at hSw
        go_simp
        try with_reducible rfl
      try simp only [Act.put, List.setIfInBounds_toArray, List.set_cons_zero, List.set_cons_succ]
      refine wpAnyH_done (by kernel_rfl) ?_ _
      have hTL := hHeld4.1
      have HTL := Lib.hid hTL
      go_wp2_with fail
      go_ret2
      exact ⟨by rw [HXX.out]; rfl, HTL.out.1⟩
  · have hkb : (k != 0) = true := by simpa using hk0
    have hxs : x = ByteArray.empty := by rw [HXS.out, TX.textS, if_neg (by rw [← HK.out]; exact hk0)]
    subst hxs
    clear hk
    go_enter Tryd.func18, Tryd.ntmps18
    go_wp2_with (with_reducible refine wpList_load_rows rfl 25 (.tmp 1) rfl w.heap.size 0 t.cells t.cells 25 (0, 0) _ rfl hg0 id_at Tryd.underlying25 rfl (tx_info HT.out) ?_)
    refine (rbody_any t _ HT.out).mono ?_
    rintro e w1 ⟨rfl, hb1⟩
    rw [← HK.out]
    have HB1 := Lib.hid (bw_call HA0.out.1 hb1)
    clear hb1
    go_wp2_with fail
    go_ret2
    exact ⟨rfl, HB1.out⟩
end Go.Proofs.YtckfdmkjeocadaaDoor
