/- box.Write, cavalcaderef13.Seal, cavalcaderef13.Write: what the calls do. Posts in plain Lean: what is posted is read as it was. -/
import Derived.Test.YtbeooeihedhabaaDoorBxRWrite
import Derived.Test.YtbeooeihedhabaaDoorSeal
import Derived.Test.YtbeooeihedhabaaDoorRSeal
import Derived.Test.YtbeooeihedhabaaDoorRPad
import Derived.Test.YtbeooeihedhabaaDoorCrG
import Derived.Test.YtbeooeihedhabaaDoorBxLdPure
namespace Go.Proofs.YtbeooeihedhabaaDoor
open Go.RowKit
set_option maxHeartbeats 2000000
set_option maxRecDepth 4000
theorem post_size {c : List UInt8} (h : c.length ≤ 65504) : tot [bstr c, bstr (tagOf 64 4 c)] ≤ 65536 := by
  have : tot [bstr c, bstr (tagOf 64 4 c)] = (bstr c).size + ((bstr (tagOf 64 4 c)).size + 0) := by simp [tot]
  rw [this, bstr_size, bstr_size, tagOf_length]
  omega
theorem bstr_list (c : List UInt8) : (bstr c).data.toList = c := bstr_toList c
theorem wr_size {b : BT} (hl : weigh b.parts ≤ 600) (h : b.wr.2 = 0) : b.wr.1.size ≤ 32768 := by
  unfold BT.wr at h ⊢
  split at h
  · rename_i hb
    rw [if_pos hb]
    cases ht : txts b.parts with
    | none => rw [ht] at h; cases h
    | some ts =>
      obtain ⟨h1, h2⟩ := lay_small hb ht hl
      have h3 := (txts_len ht).1
      have h4 := weigh_len b.parts
      have h5 := encList_length (ls := b.lay ts) h1 (by omega)
      have h6 : (b.lay ts).length = 3 + ts.length := by simp [BT.lay, nums3]; omega
      dsimp only
      rw [bstr_size]
      omega
  · cases h
theorem seal_ok (c : ByteArray) (w : World) (hc : c.size ≤ 65504) :
    Calls Tryd.prog 20 #[.string c] w fun e w' => e = .returned (.tuple #[.string (postOf c.data.toList), .int .i64 0]) ∧ Below w.heap.size w w' := by
  have HT := Lib.hid (fun w => rtag_ok 64 4 c w (by decide) (by decide) (by decide) (by decide) (by omega))
  have HP := Lib.hid (post_size (c := c.data.toList) (show c.size ≤ _ from hc))
  clear hc
  go_enter Tryd.func20, Tryd.ntmps20
  go_wp2_with fail
  refine (HT.out _).mono ?_
  rintro e w1 ⟨rfl, hb1⟩
  obtain ⟨k, hk⟩ : ∃ k, k = tagOf 64 4 c.data.toList := ⟨_, rfl⟩
  rw [show tagOf (64 : Int).toNat (4 : Int).toNat c.data.toList = k from hk.symm]
  have HKL : Hid (k.length = 32) := show _ = _ by rw [hk]; exact tagOf_length _ _ _
  have HK := Lib.hid hk
  have HB1 := Lib.hid hb1
  have hz1 : (w1.alloc (.cells zl32.toArray 51)).heap[w1.heap.size]? = some (.cells (u8s z32).toArray 51 (0, 0)) := by rw [zl32_eq]; exact heap_alloc_new _ _
  clear hk hb1
  go_wp2_with (first
    | ((with_reducible refine wpList_store_whole rfl 51 (.tmp 4) (.tmp 9) rfl w1.heap.size (u8s k) (u8s z32) 51 rfl rfl hz1 (by rw [u8s_length, u8s_length, HKL.out, z32_length]) (hash_info HKL.out) (u8s_one _) ?_); intro w2 hU; have hz2 := hU.out.at_)
    | (with_reducible refine wpList_load_rows_g (by kernel_rfl) 51 (.tmp 4) rfl w1.heap.size 0 (u8s k) (u8s k) 51 (0, 0) _ rfl hz2 id_at Tryd.underlying51 rfl (hash_info HKL.out) ?_))
  have HB2 := Lib.hid (hU.out.below (bw_alloc HB1.out _) HB1.out.size)
  refine (rbytes_any k _ HKL.out).mono ?_
  rintro e w3 ⟨rfl, hb3⟩
  have HB3 := Lib.hid (bw_call HB2.out hb3)
  clear hb3 hz2
  go_wp2_with fail
  have hrd := rd_two (w := w3) (x := c) (y := bstr k) (t := 9) rfl
  have hpl : Hid (tot [c, bstr k] ≤ 65536) := show _ ≤ _ from by rw [HK.out]; have h := HP.out; rw [bstr_of] at h; exact h
  refine (rlist_ok _ _ _ hrd (show 2 ≤ 1024 by decide) hpl.out).mono ?_
  rintro e w4 ⟨rfl, hb4⟩
  have HB4 := Lib.hid (bw_call (bw_alloc HB3.out _) hb4)
  clear hb4 hrd
  go_wp2_with fail
  go_ret2
  refine ⟨?_, HB4.out⟩
  rw [HK.out, postOf, bstr_of]
  rfl
theorem bcells_sz (b : BT) (v : Value) : (b.cells v).length = 4 := rfl
theorem batch_info4 (cs : List Value) (h : cs.length = 4) : (Tryd.prog.info? 24).map (·.size) = some cs.length := by
  rw [h]
  kernel_rfl
theorem rpost_any (b : BT) (v : Value) (w : World) (hv : PtsAt w v b.parts) (hl : weigh b.parts ≤ 600) :
    Calls Tryd.prog 12 #[.agg (b.cells v).toArray] w fun e w' => e = .returned (.tuple #[.string b.post.1, .int .i64 b.post.2]) ∧ Below w.heap.size w w' := by
  have hb0 := bw_alloc (Below.refl w.heap.size w) (.cells (b.cells v).toArray 24)
  have hz := heap_alloc_new w (.cells (b.cells v).toArray 24)
  have HB0 := Lib.hid hb0
  have HC := rwbatch_any b v (w.alloc (.cells (b.cells v).toArray 24)) (hv.below hb0) hl
  have HWS := Lib.hid (wr_size hl)
  obtain ⟨q, c, rfl⟩ := hv.shape
  obtain ⟨S, hS⟩ : ∃ S, S = b.wr.1 := ⟨_, rfl⟩
  obtain ⟨E, hE⟩ : ∃ E, E = b.wr.2 := ⟨_, rfl⟩
  rw [← hS, ← hE] at HC HWS
  have HC := Lib.hid HC
  have HPO : Hid (b.post = if E = 0 then (postOf (packL S.data.toList), 0) else (⟨#[]⟩, E)) := show _ = _ from by rw [hS, hE]; rfl
  clear hb0 hv hl hS hE
  by_cases hE0 : E = 0
  · subst hE0
    have HPO : Hid (b.post = (postOf (packL S.data.toList), 0)) := show _ = _ from by rw [HPO.out, if_pos rfl]
    have hS3 := HWS.out rfl
    have HPC : Hid (∀ W, Calls Tryd.prog 31 #[.string S] W fun e w' => e = .returned (.tuple #[.string (bstr (packL S.data.toList)), .int .i64 0]) ∧ Below W.heap.size W w') := show ∀ W, _ from fun W => by
      have h := rpack8_any S W (by omega)
      rw [packV, if_neg (by omega)] at h
      exact h
    have HPL : Hid ((bstr (packL S.data.toList)).size ≤ 65504) := show _ ≤ _ from by
      have h := packL_length (l := S.data.toList) hS3
      have h2 : S.data.toList.length = S.size := rfl
      rw [bstr_size]
      omega
    go_enter Tryd.func12, Tryd.ntmps12
    go_wp2_with (with_reducible refine wpList_load_rows rfl 24 (.tmp 1) rfl w.heap.size 0 (b.cells (.slice q b.parts.length c)) (b.cells (.slice q b.parts.length c)) 24 (0, 0) _ rfl hz id_at Tryd.underlying24 rfl (batch_info4 _ rfl) ?_)
    refine HC.out.mono ?_
    rintro e w1 ⟨rfl, hb1⟩
    have HB1 := Lib.hid (bw_call HB0.out hb1)
    clear hb1 hz
    go_wp2_with fail
    refine (HPC.out _).mono ?_
    rintro e w2 ⟨rfl, hb2⟩
    have HB2 := Lib.hid (bw_call HB1.out hb2)
    clear hb2
    go_wp2_with fail
    refine (seal_ok _ _ HPL.out).mono ?_
    rintro e w3 ⟨rfl, hb3⟩
    have HB3 := Lib.hid (bw_call HB2.out hb3)
    clear hb3
    go_wp2_with fail
    go_ret2
    rw [HPO.out, bstr_list]
    exact ⟨rfl, HB3.out⟩
  · have hne : (E != 0) = true := by simpa using hE0
    have HPO2 : Hid (b.post = (⟨#[]⟩, E)) := show _ = _ from by rw [HPO.out, if_neg hE0]
    go_enter Tryd.func12, Tryd.ntmps12
    go_wp2_with (with_reducible refine wpList_load_rows rfl 24 (.tmp 1) rfl w.heap.size 0 (b.cells (.slice q b.parts.length c)) (b.cells (.slice q b.parts.length c)) 24 (0, 0) _ rfl hz id_at Tryd.underlying24 rfl (batch_info4 _ rfl) ?_)
    refine HC.out.mono ?_
    rintro e w1 ⟨rfl, hb1⟩
    have HB1 := Lib.hid (bw_call HB0.out hb1)
    clear hb1 hz
    go_wp2_with fail
    go_ret2
    rw [HPO2.out]
    exact ⟨rfl, HB1.out⟩
theorem post_any (b : BT) (v : Value) (w : World) (hv : PtsAt w v b.parts) (hl : weigh b.parts ≤ 600) (hR : RoundsAt w) :
    Calls Tryd.prog 11 #[.agg (b.cells v).toArray] w fun e w' => e = .returned (.tuple #[.string b.post.1, .int .i64 b.post.2]) ∧ Below w.heap.size w w' := by
  have hb0 := bw_alloc (Below.refl w.heap.size w) (.cells (b.cells v).toArray 24)
  have hz := heap_alloc_new w (.cells (b.cells v).toArray 24)
  have HB0 := Lib.hid hb0
  have HR := Lib.hid hR
  have HC := wbatch_any b v (w.alloc (.cells (b.cells v).toArray 24)) (hv.below hb0) hl
  have HWS := Lib.hid (wr_size hl)
  obtain ⟨q, c, rfl⟩ := hv.shape
  obtain ⟨S, hS⟩ : ∃ S, S = b.wr.1 := ⟨_, rfl⟩
  obtain ⟨E, hE⟩ : ∃ E, E = b.wr.2 := ⟨_, rfl⟩
  rw [← hS, ← hE] at HC HWS
  have HC := Lib.hid HC
  have HPO : Hid (b.post = if E = 0 then (postOf (packL S.data.toList), 0) else (⟨#[]⟩, E)) := show _ = _ from by rw [hS, hE]; rfl
  clear hb0 hv hl hS hE hR
  by_cases hE0 : E = 0
  · subst hE0
    have HPO : Hid (b.post = (postOf (packL S.data.toList), 0)) := show _ = _ from by rw [HPO.out, if_pos rfl]
    have hS3 := HWS.out rfl
    have HPC : Hid (∀ W, Calls Tryd.prog 28 #[.string S] W fun e w' => e = .returned (.tuple #[.string (bstr (packL S.data.toList)), .int .i64 0]) ∧ Below W.heap.size W w') := show ∀ W, _ from fun W => by
      have h := cpack_any S W (by omega)
      rw [packV, if_neg (by omega)] at h
      exact h
    have HPL : Hid ((packL S.data.toList).length ≤ 65504) := show _ ≤ _ from by
      have h := packL_length (l := S.data.toList) hS3
      have h2 : S.data.toList.length = S.size := rfl
      omega
    obtain ⟨L, hL⟩ : ∃ L, L = packL S.data.toList := ⟨_, rfl⟩
    rw [← hL] at HPC HPL
    have HLL := Lib.hid hL
    have HT := Lib.hid (fun w hR => tag_ok 64 4 (bstr L) w (by decide) (by decide) (by decide) (by decide) (by rw [bstr_size]; have := HPL.out; omega) hR)
    clear hL
    go_enter Tryd.func11, Tryd.ntmps11
    go_wp2_with (with_reducible refine wpList_load_rows rfl 24 (.tmp 1) rfl w.heap.size 0 (b.cells (.slice q b.parts.length c)) (b.cells (.slice q b.parts.length c)) 24 (0, 0) _ rfl hz id_at Tryd.underlying24 rfl (batch_info4 _ rfl) ?_)
    refine HC.out.mono ?_
    rintro e w1 ⟨rfl, hb1⟩
    have HB1 := Lib.hid (bw_call HB0.out hb1)
    clear hb1 hz
    go_wp2_with fail
    refine (HPC.out _).mono ?_
    rintro e w2 ⟨rfl, hb2⟩
    have HB2 := Lib.hid (bw_call HB1.out hb2)
    clear hb2
    go_wp2_with fail
    refine (HT.out _ (HR.out.below HB2.out HR.out.1)).mono ?_
    rintro e w3 ⟨rfl, hb3⟩
    obtain ⟨k, hk⟩ : ∃ k, k = tagOf 64 4 L := ⟨_, rfl⟩
    rw [show tagOf (64 : Int).toNat (4 : Int).toNat (bstr L).data.toList = k from by rw [bstr_list]; exact hk.symm]
    have HKL : Hid (k.length = 32) := show _ = _ by rw [hk]; exact tagOf_length _ _ _
    have HK := Lib.hid hk
    have HB3 := Lib.hid (bw_call HB2.out hb3)
    have hz1 : (w3.alloc (.cells zl32.toArray 51)).heap[w3.heap.size]? = some (.cells (u8s z32).toArray 51 (0, 0)) := by rw [zl32_eq]; exact heap_alloc_new _ _
    have HPP : Hid (tot [bstr L, bstr k] ≤ 65536) := show _ ≤ _ from by rw [hk]; exact post_size HPL.out
    clear hk hb3
    go_wp2_with (first
      | ((with_reducible refine wpList_store_whole rfl 51 (.tmp 7) (.tmp 28) rfl w3.heap.size (u8s k) (u8s z32) 51 rfl rfl hz1 (by rw [u8s_length, u8s_length, HKL.out, z32_length]) (hash_info HKL.out) (u8s_one _) ?_); intro w4 hU; have hz2 := hU.out.at_; have hcv := fun c => conv_hash HKL.out hz2 c))
    have HB4 := Lib.hid (hU.out.below (bw_alloc HB3.out _) HB3.out.size)
    have hrd := rd_two (w := w4) (x := bstr L) (y := bstr k) (t := 9) rfl
    refine (list_ok _ _ _ hrd (show 2 ≤ 1024 by decide) HPP.out).mono ?_
    rintro e w5 ⟨rfl, hb5⟩
    have HB5 := Lib.hid (bw_call (bw_alloc HB4.out _) hb5)
    clear hb5 hrd
    go_wp2_with fail
    go_ret2
    have hpo := HPO.out
    rw [← HLL.out, postOf, ← HK.out] at hpo
    rw [hpo]
    exact ⟨rfl, HB5.out⟩
  · have hne : (E != 0) = true := by simpa using hE0
    have HPO2 : Hid (b.post = (⟨#[]⟩, E)) := show _ = _ from by rw [HPO.out, if_neg hE0]
    go_enter Tryd.func11, Tryd.ntmps11
    go_wp2_with (with_reducible refine wpList_load_rows rfl 24 (.tmp 1) rfl w.heap.size 0 (b.cells (.slice q b.parts.length c)) (b.cells (.slice q b.parts.length c)) 24 (0, 0) _ rfl hz id_at Tryd.underlying24 rfl (batch_info4 _ rfl) ?_)
    refine HC.out.mono ?_
    rintro e w1 ⟨rfl, hb1⟩
    have HB1 := Lib.hid (bw_call HB0.out hb1)
    clear hb1 hz
    go_wp2_with fail
    go_ret2
    rw [HPO2.out]
    exact ⟨rfl, HB1.out⟩
open Go.RowKit
theorem rdAll_post {c : List UInt8} (h : c.length ≤ 65504) : rdAll (postOf c) = .ok [bstr c, bstr (tagOf 64 4 c)] :=
  rdAll_enc (ls := [bstr c, bstr (tagOf 64 4 c)]) (show 2 ≤ 1024 by decide) (post_size h)
theorem rdBox_post {c : List UInt8} (h : c.length ≤ 65504) : rdBox (postOf c) = rdIn (bstr c) := by
  rw [rdBox_two (rdAll_post h), if_pos (by rw [bstr_size, tagOf_length]), if_pos (by rw [bstr_list, bstr_list])]
theorem rdIn_ok {c l : List UInt8} {b : BT} (h : openL c 32768 = .ok l) (hb : rdB (bstr l) = some b) : rdIn (bstr c) = .ok b := by
  unfold rdIn
  rw [bstr_list, h]
  dsimp only
  rw [hb]
theorem post_zero {b : BT} (h : b.post.2 = 0) : b.wr.2 = 0 ∧ b.post.1 = postOf (packL b.wr.1.data.toList) := by
  unfold BT.post at h ⊢
  split at h
  · rename_i hw
    rw [if_pos hw]
    exact ⟨hw, rfl⟩
  · rename_i hw
    exact absurd h hw
theorem crate_size {b : BT} (hl : weigh b.parts ≤ 600) (h : b.wr.2 = 0) : (packL b.wr.1.data.toList).length ≤ 32777 := by
  have h1 := wr_size hl h
  have h2 : b.wr.1.data.toList.length = b.wr.1.size := rfl
  have h3 := packL_length (l := b.wr.1.data.toList) (by omega)
  omega
theorem box_back {b : BT} (hl : weigh b.parts ≤ 600) (h : b.post.2 = 0) : rdBox b.post.1 = .ok b := by
  obtain ⟨h1, h2⟩ := post_zero h
  have h3 := crate_size hl h1
  have h4 := wr_size hl h1
  have h5 : b.wr.1.data.toList.length = b.wr.1.size := rfl
  rw [h2, rdBox_post (by omega)]
  refine rdIn_ok (open_pack (by omega) (by omega)) ?_
  rw [bstr_of]
  exact rdB_wr hl h1
theorem postOf_size {c : List UInt8} (h : c.length ≤ 65504) : (postOf c).size ≤ c.length + 44 := by
  have h1 := post_size h
  have h2 := encList_length (ls := [bstr c, bstr (tagOf 64 4 c)]) (show 2 ≤ 1024 by decide) h1
  have h3 : tot [bstr c, bstr (tagOf 64 4 c)] = (bstr c).size + ((bstr (tagOf 64 4 c)).size + 0) := by simp [tot]
  rw [h3, bstr_size, bstr_size, tagOf_length] at h2
  unfold postOf
  rw [bstr_size]
  have h4 : [bstr c, bstr (tagOf 64 4 c)].length = 2 := rfl
  omega
theorem post_short {b : BT} (hl : weigh b.parts ≤ 600) (h : b.post.2 = 0) : b.post.1.size ≤ 65472 := by
  obtain ⟨h1, h2⟩ := post_zero h
  have h3 := crate_size hl h1
  rw [h2]
  have := postOf_size (c := packL b.wr.1.data.toList) (by omega)
  omega
theorem post_err {b : BT} (h : ¬ b.post.2 = 0) : b.post.1 = ⟨#[]⟩ := by
  unfold BT.post at h ⊢
  split at h
  · exact absurd rfl h
  · rename_i hw
    rw [if_neg hw]
/-- the batch that must come at any rate -/
def awB : BT := ⟨0, 3, 0, [⟨false, ⟨#[97]⟩⟩]⟩
theorem awB_post : awB.post.2 = 0 := by
  have h : awB.wr.2 = 0 := by kernel_rfl
  unfold BT.post
  rw [if_pos h]
theorem awB_light : weigh awB.parts ≤ 600 := by decide
theorem awB_land (v : Value) (p : List UInt8) : land [⟨5, 0, p, v, [⟨3, 64, 0, awB.post.1⟩]⟩] = [(5, awB)] := by
  have hs := post_short awB_light awB_post
  have hk : (IT.mk 3 64 0 awB.post.1).kind = 3 ∧ (IT.mk 3 64 0 awB.post.1).ok = true := by
    refine ⟨rfl, ?_⟩
    unfold IT.ok
    rw [decide_eq_true hs]
    rfl
  show landStep 5 [] ⟨3, 64, 0, awB.post.1⟩ = _
  rw [step_ok hk (box_back awB_light awB_post)]
  rfl
end Go.Proofs.YtbeooeihedhabaaDoor
