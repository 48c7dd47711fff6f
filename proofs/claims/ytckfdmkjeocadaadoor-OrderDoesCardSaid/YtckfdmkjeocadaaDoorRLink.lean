/- cavalcaderef02.Chain, cavalcaderef05.Link: what the calls do (printed by mkrlink.py). -/
import Derived.Test.YtckfdmkjeocadaaDoorNLink
import Derived.Test.YtckfdmkjeocadaaDoorRPad
import Derived.Test.YtckfdmkjeocadaaDoorRSum
namespace Go.Proofs.YtckfdmkjeocadaaDoor
open Go.RowKit
set_option maxHeartbeats 4000000
set_option maxRecDepth 4000
theorem rchain_any (prev : List UInt8) (s : ByteArray) (w : World) (hp : prev.length = 32) (hs : s.size ≤ 65536) :
    Calls Tryd.prog 81 #[.agg (u8s prev).toArray, .string s] w fun e w' => e = .returned (.agg (u8s (sha (prev ++ s.data.toList))).toArray) ∧ Below w.heap.size w w' := by
  have HP := Lib.hid hp
  have hz0 : ((w.alloc (.cells (u8s prev).toArray 23)).alloc (.cells zl32.toArray 23)).heap[w.heap.size]? = some (.cells (u8s prev).toArray 23 (0, 0)) := (Below.heap_alloc _ _ _ (by simp)).trans (heap_alloc_new w _)
  have hz1 : ((w.alloc (.cells (u8s prev).toArray 23)).alloc (.cells zl32.toArray 23)).heap[w.heap.size + 1]? = some (.cells zl32.toArray 23 (0, 0)) := heap_alloc2_new w _ _
  have HB0 := Lib.hid (bw_alloc (bw_alloc (Below.refl w.heap.size w) (.cells (u8s prev).toArray 23)) (.cells zl32.toArray 23))
  obtain ⟨r, hr⟩ : ∃ r, r = sha (prev ++ s.data.toList) := ⟨_, rfl⟩
  rw [← hr]
  have HRL : Hid (r.length = 32) := show _ = _ by rw [hr]; exact sha_length _
  obtain ⟨pb, hpb⟩ : ∃ b, b = bstr prev := ⟨_, rfl⟩
  have hps : pb.size = 32 := by rw [hpb, bstr_size, hp]
  have HBY := Lib.hid (fun w => rbytes_any prev w hp)
  rw [← hpb] at HBY
  have HSM : Hid (∀ w, Calls Tryd.prog 66 #[.string (pb ++ s)] w fun e w' => e = .returned (.agg (u8s r).toArray) ∧ Below w.heap.size w w') := show ∀ w, _ from fun w => by
    rw [hpb]
    have h := rsum_any (bstr prev ++ s) w (by rw [ByteArray.size_append, bstr_size, hp]; omega)
    rw [show (bstr prev ++ s).data.toList = prev ++ s.data.toList by rw [ByteArray.data_append, Array.toList_append]; rfl, ← hr] at h
    exact h
  clear hp hr hpb
  go_enter Tryd.func81, Tryd.ntmps81
  go_wp2_with (with_reducible refine wpList_load_rows rfl 23 (.tmp 2) rfl w.heap.size 0 (u8s prev) (u8s prev) 23 (0, 0) _ rfl hz0 id_at Tryd.underlying23 rfl (hash_info HP.out) ?_)
  refine (HBY.out _).mono ?_
  rintro e w1 ⟨rfl, hb1⟩
  have hz2 := keep_row hb1 hz1
  have HB1 := Lib.hid (bw_call HB0.out hb1)
  clear hb1 hz0 hz1
  go_wp2_with fail
  refine (HSM.out _).mono ?_
  rintro e w2 ⟨rfl, hb2⟩
  have hz3 := keep_row hb2 hz2
  have HB2 := Lib.hid (bw_call HB1.out hb2)
  clear hb2 hz2
  go_wp2_with ((with_reducible refine wpList_store_whole rfl 23 (.tmp 4) (.tmp 9) rfl (w.heap.size + 1) (u8s r) zl32 23 rfl rfl hz3 (by rw [u8s_length, HRL.out, zl32_length]) (hash_info HRL.out) (u8s_one _) ?_); intro w3 hU3)
  exact post_cell 4 23 rfl (w.heap.size + 1) _ (u8s r) _ _ hU3.out.at_ Tryd.underlying23 rfl (hash_info HRL.out) rfl rfl ⟨rfl, hU3.out.below HB2.out (by omega)⟩
theorem rwithin5_any (n : Int) (w : World) : Calls Tryd.prog 78 #[.int .i64 n, .int .i64 1099511627776] w fun e w' => e = .returned (.bool (numOk n)) ∧ w' = w := by
  obtain ⟨g, hg⟩ : ∃ g, g = numOk n := ⟨_, rfl⟩
  rw [← hg]
  have HG := Lib.hid hg
  clear hg
  by_cases h0 : 0 ≤ n
  · have hd0 : decide ((0 : Int) ≤ n) = true := decide_eq_true h0
    by_cases h1 : n ≤ 1099511627776
    · have hd1 : decide (n ≤ (1099511627776 : Int)) = true := decide_eq_true h1
      obtain rfl : g = true := by rw [HG.out]; exact decide_eq_true ⟨h0, h1⟩
      clear h0 h1 HG
      go_enter Tryd.func78, Tryd.ntmps78
      go_wp2_with fail
      go_ret
      exact ⟨rfl, rfl⟩
    · have hd1 : decide (n ≤ (1099511627776 : Int)) = false := decide_eq_false h1
      obtain rfl : g = false := by rw [HG.out]; exact decide_eq_false (fun h => h1 h.2)
      clear h0 h1 HG
      go_enter Tryd.func78, Tryd.ntmps78
      go_wp2_with fail
      go_ret
      exact ⟨rfl, rfl⟩
  · have hd0 : decide ((0 : Int) ≤ n) = false := decide_eq_false h0
    obtain rfl : g = false := by rw [HG.out]; exact decide_eq_false (fun h => h0 h.1)
    clear h0 HG
    go_enter Tryd.func78, Tryd.ntmps78
    go_wp2_with fail
    go_ret
    exact ⟨rfl, rfl⟩
theorem rtext5_any (n : Int) (w : World) (h : 0 ≤ n) (h2 : n ≤ 9223372036854775807) : Calls Tryd.prog 80 #[.int .i64 n] w fun e w' => e = .returned (.string (numS n.toNat)) ∧ Below w.heap.size w w' := by
  go_enter Tryd.func80, Tryd.ntmps80
  go_wp2_with fail
  refine (rnumber_any n _ h h2).mono ?_
  rintro e w1 ⟨rfl, hb⟩
  have HB := Lib.hid hb
  clear hb
  go_wp2_with fail
  go_ret
  exact ⟨rfl, HB.out⟩
theorem rlist5_ok (v : Value) (ls : List ByteArray) (w : World) (hv : RdStrs w v ls) (hl : ls.length ≤ 1024) (ht : tot ls ≤ 65536) :
    Calls Tryd.prog 79 #[v] w fun e w' => e = .returned (.tuple #[.string (bstr (encList ls)), .int .i64 0]) ∧ Below w.heap.size w w' := by
  have HV := Lib.hid hv
  clear hv
  go_enter Tryd.func79, Tryd.ntmps79
  go_wp2_with fail
  refine (rlist_ok v ls _ HV.out hl ht).mono ?_
  rintro e w1 ⟨rfl, hb⟩
  have HB := Lib.hid hb
  clear hb
  go_wp2_with fail
  go_ret2
  exact ⟨rfl, HB.out⟩
theorem rc_build6 (a b c : Int) (s : ByteArray) {h g : List UInt8} (hl : h.length = 32) (gl : g.length = 32) (w : World) :
    (Instr.build 61 #[(0, .int .i64 a), (1, .int .i64 b), (2, .int .i64 c), (3, .string s), (4, .agg (u8s h).toArray), (5, .agg (u8s g).toArray)]).run Tryd.prog w = .ok (.agg (RC.cells ⟨a, b, c, s, h, g⟩).toArray) w := by
  refine run_build_struct (places := #[(0, 1), (1, 1), (2, 1), (3, 1), (4, 32), (36, 32)]) w (rc_zero w) Tryd.underlying61 (by kernel_rfl) ?_
  rw [fill_cons (off := 0) (size := 1) rfl rfl (by decide), fill_cons (off := 1) (size := 1) rfl rfl (by simp [splice, Value.cells]), fill_cons (off := 2) (size := 1) rfl rfl (by simp [splice, Value.cells]), fill_cons (off := 3) (size := 1) rfl rfl (by simp [splice, Value.cells]), fill_cons (off := 4) (size := 32) rfl (by simp [Value.cells, u8s_length, hl]) (by simp [splice, Value.cells]), fill_cons (off := 36) (size := 32) rfl (by simp [Value.cells, u8s_length, gl]) (by simp [splice, Value.cells, u8s_length, hl])]
  rw [Instr.fill]
  congr 1
  simp only [Value.cells, splice, u8s_length, hl, gl, RC.cells, zlRc]
  simp [u8s_length, hl]
structure RlAt (w W : World) (prev : List UInt8) : Prop where
  b : Below w.heap.size w W
  p : W.heap[w.heap.size]? = some (.cells (u8s prev).toArray 23 (0, 0))
  z : W.heap[w.heap.size + 1]? = some (.cells zlRc.toArray 61 (0, 0))
theorem RlAt.next {w W W' : World} {prev : List UInt8} (h : RlAt w W prev) (hb : Below W.heap.size W W') : RlAt w W' prev := ⟨bw_call h.b hb, keep_row hb h.p, keep_row hb h.z⟩
theorem rlink_any (prev : List UInt8) (index kind time : Int) (body : ByteArray) (w : World) (hr : (RC.mk index kind time body prev z32).wf) :
    Calls Tryd.prog 42 #[.agg (u8s prev).toArray, .int .i64 index, .int .i64 kind, .int .i64 time, .string body] w fun e w' => e = .returned (.tuple #[.agg (linkRes prev index kind time body).cells.toArray, .int .i64 (linkErr prev index kind time body)]) ∧ Below w.heap.size w w' := by
  have HA0 : Hid (RlAt w ((w.alloc (.cells (u8s prev).toArray 23)).alloc (.cells Tryd.zeroCells61 61)) prev) := show RlAt _ _ _ from ⟨bw_alloc (bw_alloc (Below.refl w.heap.size w) _) _, (Below.heap_alloc _ _ _ (by simp)).trans (heap_alloc_new w _), heap_alloc2_new w _ _⟩
  obtain ⟨i1, hi1⟩ : ∃ i, i = numOk index := ⟨_, rfl⟩
  obtain ⟨i2, hi2⟩ : ∃ i, i = numOk time := ⟨_, rfl⟩
  have HW := Lib.hid hr
  obtain ⟨rr, hrr⟩ : ∃ x, x = linkRes prev index kind time body := ⟨_, rfl⟩
  obtain ⟨re, hre⟩ : ∃ x, x = linkErr prev index kind time body := ⟨_, rfl⟩
  rw [← hrr, ← hre]
  have HBAD : Hid ((RC.mk index kind time body prev z32).good = false → rr = RC.zero ∧ re = 2) := show _ → _ from fun h => by
    rw [hrr, hre, linkRes, linkErr, h]
    exact ⟨rfl, rfl⟩
  have HGOOD : Hid ((RC.mk index kind time body prev z32).good = true → rr = linkOf prev index kind time body ∧ re = 0) := show _ → _ from fun h => by
    rw [hrr, hre, linkRes, linkErr, h]
    exact ⟨rfl, rfl⟩
  have HI1 := Lib.hid hi1
  have HI2 := Lib.hid hi2
  clear hr hrr hre hi1 hi2
  have HWI := Lib.hid (fun W => rwithin5_any index W)
  have HWT := Lib.hid (fun W => rwithin5_any time W)
  rw [← HI1.out] at HWI
  rw [← HI2.out] at HWT
  have HGD : Hid ((RC.mk index kind time body prev z32).good = ((i1 && i2) && (decide (kind = 1) || decide (kind = 2)) && decide (body.size ≤ 656))) := show _ = _ by rw [HI1.out, HI2.out]; rfl
  cases i1
  · have HF := Lib.hid (HBAD.out (by rw [HGD.out]; rfl))
    go_enter Tryd.func42, Tryd.ntmps42
    go_wp2_with fail
    refine (HWI.out _).mono ?_
    rintro e w1 ⟨rfl, rfl⟩
    have hz := HA0.out.z
    go_wp2_with (first
      | (with_reducible refine wpList_build rfl 61 [] rfl [] (.agg zlRc.toArray) rfl (rc_build0 _) ?_)
      | ((with_reducible refine wpList_store_whole rfl 61 (.tmp 10) (.tmp 35) rfl (w.heap.size + 1) zlRc zlRc 61 rfl rfl hz rfl zlRc_info zlRc_one ?_); intro w4 hU4))
    exact post_cell_tmp 10 11 61 rfl (w.heap.size + 1) _ zlRc _ _ hU4.out.at_ Tryd.underlying61 rfl zlRc_info (.int .i64 2) rfl rfl rfl ⟨by rw [HF.out.1, HF.out.2]; rfl, hU4.out.below HA0.out.b (by omega)⟩
  · cases i2
    · have HF := Lib.hid (HBAD.out (by rw [HGD.out]; rfl))
      go_enter Tryd.func42, Tryd.ntmps42
      go_wp2_with fail
      refine (HWI.out _).mono ?_
      rintro e w1 ⟨rfl, rfl⟩
      go_wp2_with fail
      refine (HWT.out _).mono ?_
      rintro e w1 ⟨rfl, rfl⟩
      have hz := HA0.out.z
      go_wp2_with (first
        | (with_reducible refine wpList_build rfl 61 [] rfl [] (.agg zlRc.toArray) rfl (rc_build0 _) ?_)
        | ((with_reducible refine wpList_store_whole rfl 61 (.tmp 10) (.tmp 35) rfl (w.heap.size + 1) zlRc zlRc 61 rfl rfl hz rfl zlRc_info zlRc_one ?_); intro w4 hU4))
      exact post_cell_tmp 10 11 61 rfl (w.heap.size + 1) _ zlRc _ _ hU4.out.at_ Tryd.underlying61 rfl zlRc_info (.int .i64 2) rfl rfl rfl ⟨by rw [HF.out.1, HF.out.2]; rfl, hU4.out.below HA0.out.b (by omega)⟩
    · by_cases hk : kind = 1 ∨ kind = 2
      · have hkk : (kind = 1 ∧ (kind != 1) = false) ∨ (kind = 2 ∧ (kind != 1) = true ∧ (kind != 2) = false) := by
          rcases hk with rfl | rfl
          · exact .inl ⟨rfl, rfl⟩
          · exact .inr ⟨rfl, rfl, rfl⟩
        by_cases h3 : body.size ≤ 656
        · have hd3 : decide ((656 : Int) < body.size) = false := decide_eq_false (by omega)
          have hg : (RC.mk index kind time body prev z32).good = true := by
            rw [HGD.out, decide_eq_true h3]
            rcases hk with rfl | rfl <;> rfl
          have HF := Lib.hid (HGOOD.out hg)
          have hgi := RC.good_is hg
          have HPT := Lib.hid (RC.parts_tot hg)
          have HLS := Lib.hid (RC.laid_size hg)
          have hb1 : 0 ≤ index ∧ index ≤ 9223372036854775807 := by have := hgi.1; dsimp only at this; omega
          have hb2 : 0 ≤ time ∧ time ≤ 9223372036854775807 := by have := hgi.2.1; dsimp only at this; omega
          have hb3 : 0 ≤ kind ∧ kind ≤ 9223372036854775807 := by rcases hk with rfl | rfl <;> decide
          have HTI := Lib.hid (fun W => rtext5_any index W hb1.1 hb1.2)
          have HTK := Lib.hid (fun W => rtext5_any kind W hb3.1 hb3.2)
          have HTT := Lib.hid (fun W => rtext5_any time W hb2.1 hb2.2)
          obtain ⟨ns1, hn1⟩ : ∃ x, x = numS index.toNat := ⟨_, rfl⟩
          obtain ⟨ns2, hn2⟩ : ∃ x, x = numS kind.toNat := ⟨_, rfl⟩
          obtain ⟨ns3, hn3⟩ : ∃ x, x = numS time.toNat := ⟨_, rfl⟩
          have HPA : Hid ((RC.mk index kind time body prev z32).parts = [ns1, ns2, ns3, body]) := show _ = _ by rw [hn1, hn2, hn3]; rfl
          rw [← hn1] at HTI
          rw [← hn2] at HTK
          rw [← hn3] at HTT
          obtain ⟨li, hli⟩ : ∃ x, x = bstr (RC.mk index kind time body prev z32).laid := ⟨_, rfl⟩
          have HLI : Hid (li = bstr (encList [ns1, ns2, ns3, body])) := show _ = _ by rw [hli, ← HPA.out]; rfl
          have HLZ : Hid (li.size ≤ 65536) := show _ ≤ _ by rw [hli, bstr_size]; exact Nat.le_trans HLS.out (by decide)
          obtain ⟨hx, hhx⟩ : ∃ x, x = (RC.mk index kind time body prev z32).link := ⟨_, rfl⟩
          have HHX : Hid (sha (prev ++ li.data.toList) = hx) := show _ = _ by rw [hli, hhx]; rfl
          have HXL : Hid (hx.length = 32) := show _ = _ by rw [hhx]; exact RC.link_length _
          have HCH := Lib.hid (fun W => rchain_any prev li W HW.out.prev HLZ.out)
          rw [HHX.out] at HCH
          obtain ⟨Q, hQ⟩ : ∃ Q, Q = RC.mk index kind time body prev hx := ⟨_, rfl⟩
          have HQF : Hid (rr = Q ∧ re = 0) := show _ ∧ _ from ⟨HF.out.1.trans (by rw [hQ, hhx]; rfl), HF.out.2⟩
          have HQW : Hid Q.wf := show _ from by rw [hQ]; exact ⟨HW.out.index, HW.out.kind, HW.out.time, HW.out.body, HW.out.prev, HXL.out⟩
          have HQL : Hid (Q.cells.length = zlRc.length) := show _ = _ from rc_len HQW.out
          have HBD : Hid (∀ w, (Instr.build 61 #[(0, .int .i64 index), (1, .int .i64 kind), (2, .int .i64 time), (3, .string body), (4, .agg (u8s prev).toArray), (5, .agg (u8s hx).toArray)]).run Tryd.prog w = .ok (.agg Q.cells.toArray) w) := show ∀ w, _ from fun w => by rw [hQ]; exact rc_build6 index kind time body HW.out.prev HXL.out w
          have HPL : Hid (prev.length = 32) := show _ = _ from HW.out.prev
          have hu : Tryd.prog.underlying 23 = some _ := Tryd.underlying23
          have KEEP : Hid (∀ W, RlAt w W prev → W.rangeAt w.heap.size 0 (u8s prev)) := show ∀ W, _ from fun W h => range_row h.p id_at
          clear hg hgi hb1 hb2 hb3 hn1 hn2 hn3 hli hhx hQ h3 HBAD HGOOD HF
          rcases hkk with ⟨rfl, hk1⟩ | ⟨rfl, hk1, hk2⟩
          · go_enter Tryd.func42, Tryd.ntmps42
            go_wp2_with fail
            refine (HWI.out _).mono ?_
            rintro e w1 ⟨rfl, rfl⟩
            go_wp2_with fail
            refine (HWT.out _).mono ?_
            rintro e w1 ⟨rfl, rfl⟩
            generalize hW0 : (w.alloc (.cells (u8s prev).toArray 23)).alloc (.cells Tryd.zeroCells61 61) = W0 at *
            clear hW0
            go_wp2_with fail
            refine (HTI.out _).mono ?_
            rintro e w2 ⟨rfl, hb2⟩
            have HA2 := Lib.hid (HA0.out.next hb2)
            clear hb2
            go_wp2_with fail
            refine (HTK.out _).mono ?_
            rintro e w3 ⟨rfl, hb3⟩
            have HA3 := Lib.hid (HA2.out.next hb3)
            clear hb3
            go_wp2_with fail
            refine (HTT.out _).mono ?_
            rintro e w4 ⟨rfl, hb4⟩
            have HA4 := Lib.hid (HA3.out.next hb4)
            clear hb4
            go_wp2_with fail
            have hown : (w4.alloc (.cells (strs [ns1, ns2, ns3, body]).toArray 9)).ownsRow w4.heap.size 9 1 (.slice (some ⟨w4.heap.size, 0, none⟩) 4 4) 4 (strs [ns1, ns2, ns3, body]) := own_all rfl (by decide)
            refine (rlist5_ok _ [ns1, ns2, ns3, body] _ (RdStrs.of_own hown (by decide) (by simp)) (by simp) (by have := HPT.out; rw [HPA.out] at this; omega)).mono ?_
            rintro e w5 ⟨rfl, hb5⟩
            rw [← HLI.out]
            have hA5 := (HA4.out.next (bw_alloc (Below.refl _ _) _)).next hb5
            clear hb5 hown HA0 HA2 HA3 HA4
            go_wp2_with fail
            refine wp_region_held_drew (S := fun W => W.rangeAt w.heap.size 0 (u8s prev)) (by kernel_rfl) (KEEP.out _ (hA5.next (Below.refl _ _).drew)) (fun hHeld => ?_)
            refine rg_gen (i := 0) (v := ?_) rfl (by kernel_rfl) (by kernel_rfl) (by kernel_rfl) (fun _ _ _ h => h) rfl (by rfl) ?_ (by assumption) ?_
            rotate_left
            · intro w hSw
              try dsimp only at hSw
              go_simp
              try with_reducible rfl
            try simp only [Act.put, List.setIfInBounds_toArray, List.set_cons_zero, List.set_cons_succ]
            refine rg_gen (i := 1) (v := ?_) rfl (by kernel_rfl) (by kernel_rfl) (by kernel_rfl) (fun _ _ _ h => h) rfl (by rfl) ?_ (by assumption) ?_
            rotate_left
            · intro w hSw
              try dsimp only at hSw
              go_simp
              try with_reducible rfl
            try simp only [Act.put, List.setIfInBounds_toArray, List.set_cons_zero, List.set_cons_succ]
            refine rg_gen (i := 2) (v := ?_) rfl (by kernel_rfl) (by kernel_rfl) (by kernel_rfl) (fun _ _ _ h => h) rfl (by rfl) ?_ (by assumption) ?_
            rotate_left
            · intro w hSw
              try dsimp only at hSw
              go_simp
              try with_reducible rfl
            try simp only [Act.put, List.setIfInBounds_toArray, List.set_cons_zero, List.set_cons_succ]
            refine rg_gen (i := 3) (v := ?_) rfl (by kernel_rfl) (by kernel_rfl) (by kernel_rfl) (fun _ _ _ h => h) rfl (by rfl) ?_ (by assumption) ?_
            rotate_left
            · intro w hSw
              try dsimp only at hSw
              go_simp
              try with_reducible rfl
            try simp only [Act.put, List.setIfInBounds_toArray, List.set_cons_zero, List.set_cons_succ]
            refine rg_row (i := 4) rfl (by kernel_rfl) (by kernel_rfl) (by kernel_rfl) (fun _ _ _ _ h => h) rfl (by rfl) 23 (.tmp 5) rfl w.heap.size 0 (u8s prev) rfl (fun W h => h) hu rfl (hash_info HPL.out) (by assumption) ?_
            try simp only [Act.put, List.setIfInBounds_toArray, List.set_cons_zero, List.set_cons_succ]
            refine rg_row (i := 5) rfl (by kernel_rfl) (by kernel_rfl) (by kernel_rfl) (fun _ _ _ _ h => h) rfl (by rfl) 23 (.tmp 5) rfl w.heap.size 0 (u8s prev) rfl (fun W h => h) hu rfl (hash_info HPL.out) (by assumption) ?_
            try simp only [Act.put, List.setIfInBounds_toArray, List.set_cons_zero, List.set_cons_succ]
            refine rg_gen (i := 6) (v := ?_) rfl (by kernel_rfl) (by kernel_rfl) (by kernel_rfl) (fun _ _ _ h => h) rfl (by rfl) ?_ (by assumption) ?_
            rotate_left
            · intro w hSw
              try dsimp only at hSw
              go_simp
              try with_reducible rfl
            try simp only [Act.put, List.setIfInBounds_toArray, List.set_cons_zero, List.set_cons_succ]
            refine rg_one (i := 7) (by kernel_rfl) rfl (fun K hK => ?_)
            go_simp
            go_at_call 81
            refine (HCH.out _).mono ?_
            rintro e w6 ⟨rfl, hb6⟩
            have hA6 := (hA5.next (Below.refl _ _).drew).next hb6
            go_wp2_with fail
            refine hK.out _ _ (KEEP.out _ hA6) (fun hHeld1 => ?_)
            clear hK K
            try simp only [Act.put, List.setIfInBounds_toArray, List.set_cons_zero, List.set_cons_succ]
            refine rg_build (i := 8) rfl (by kernel_rfl) (by kernel_rfl) (by kernel_rfl) (fun _ _ _ h => h) rfl (by rfl) 61 [(0, .tmp 48), (1, .tmp 49), (2, .tmp 50), (3, .tmp 51), (4, .tmp 52), (5, .tmp 55)] rfl [(0, .int .i64 index), (1, .int .i64 1), (2, .int .i64 time), (3, .string body), (4, .agg (u8s prev).toArray), (5, .agg (u8s hx).toArray)] rfl HBD.out (by assumption) ?_
            try simp only [Act.put, List.setIfInBounds_toArray, List.set_cons_zero, List.set_cons_succ]
            refine rg_one (i := 9) (by kernel_rfl) rfl (fun K hK => ?_)
            refine rg_store (by rfl) rfl 61 (.tmp 10) (.tmp 56) rfl (w.heap.size + 1) Q.cells zlRc 61 rfl rfl hA6.z HQL.out (rc_info HQW.out) (rc_one _) (fun W7 hU => ?_)
            have HB7 := Lib.hid (hU.below hA6.b (by omega))
            have hp7 := (hU.other w.heap.size (by omega)).trans hA6.p
            have hT7 := hU.at_
            refine hK.out _ _ (range_row hp7 id_at) (fun hHeld2 => ?_)
            clear hK K hA6 hA5 hU
            try simp only [Act.put, List.setIfInBounds_toArray, List.set_cons_zero, List.set_cons_succ]
            refine rg_gen (i := 10) (v := ?_) rfl (by kernel_rfl) (by kernel_rfl) (by kernel_rfl) (fun _ _ _ h => h) rfl (by rfl) ?_ (by assumption) ?_
            rotate_left
            · intro w hSw
              try dsimp only at hSw
              go_simp
              try with_reducible rfl
            try simp only [Act.put, List.setIfInBounds_toArray, List.set_cons_zero, List.set_cons_succ]
            refine wpAnyH_done (by kernel_rfl) ?_ _
            go_wp2_with fail
            exact post_cell_tmp 10 11 61 rfl (w.heap.size + 1) _ Q.cells _ _ hT7 Tryd.underlying61 rfl (rc_info HQW.out) (.int .i64 0) rfl rfl rfl ⟨by rw [HQF.out.1, HQF.out.2], HB7.out⟩
          · go_enter Tryd.func42, Tryd.ntmps42
            go_wp2_with fail
            refine (HWI.out _).mono ?_
            rintro e w1 ⟨rfl, rfl⟩
            go_wp2_with fail
            refine (HWT.out _).mono ?_
            rintro e w1 ⟨rfl, rfl⟩
            generalize hW0 : (w.alloc (.cells (u8s prev).toArray 23)).alloc (.cells Tryd.zeroCells61 61) = W0 at *
            clear hW0
            go_wp2_with fail
            refine (HTI.out _).mono ?_
            rintro e w2 ⟨rfl, hb2⟩
            have HA2 := Lib.hid (HA0.out.next hb2)
            clear hb2
            go_wp2_with fail
            refine (HTK.out _).mono ?_
            rintro e w3 ⟨rfl, hb3⟩
            have HA3 := Lib.hid (HA2.out.next hb3)
            clear hb3
            go_wp2_with fail
            refine (HTT.out _).mono ?_
            rintro e w4 ⟨rfl, hb4⟩
            have HA4 := Lib.hid (HA3.out.next hb4)
            clear hb4
            go_wp2_with fail
            have hown : (w4.alloc (.cells (strs [ns1, ns2, ns3, body]).toArray 9)).ownsRow w4.heap.size 9 1 (.slice (some ⟨w4.heap.size, 0, none⟩) 4 4) 4 (strs [ns1, ns2, ns3, body]) := own_all rfl (by decide)
            refine (rlist5_ok _ [ns1, ns2, ns3, body] _ (RdStrs.of_own hown (by decide) (by simp)) (by simp) (by have := HPT.out; rw [HPA.out] at this; omega)).mono ?_
            rintro e w5 ⟨rfl, hb5⟩
            rw [← HLI.out]
            have hA5 := (HA4.out.next (bw_alloc (Below.refl _ _) _)).next hb5
            clear hb5 hown HA0 HA2 HA3 HA4
            go_wp2_with fail
            refine wp_region_held_drew (S := fun W => W.rangeAt w.heap.size 0 (u8s prev)) (by kernel_rfl) (KEEP.out _ (hA5.next (Below.refl _ _).drew)) (fun hHeld => ?_)
            refine rg_gen (i := 0) (v := ?_) rfl (by kernel_rfl) (by kernel_rfl) (by kernel_rfl) (fun _ _ _ h => h) rfl (by rfl) ?_ (by assumption) ?_
            rotate_left
            · intro w hSw
              try dsimp only at hSw
              go_simp
              try with_reducible rfl
            try simp only [Act.put, List.setIfInBounds_toArray, List.set_cons_zero, List.set_cons_succ]
            refine rg_gen (i := 1) (v := ?_) rfl (by kernel_rfl) (by kernel_rfl) (by kernel_rfl) (fun _ _ _ h => h) rfl (by rfl) ?_ (by assumption) ?_
            rotate_left
            · intro w hSw
              try dsimp only at hSw
              go_simp
              try with_reducible rfl
            try simp only [Act.put, List.setIfInBounds_toArray, List.set_cons_zero, List.set_cons_succ]
            refine rg_gen (i := 2) (v := ?_) rfl (by kernel_rfl) (by kernel_rfl) (by kernel_rfl) (fun _ _ _ h => h) rfl (by rfl) ?_ (by assumption) ?_
            rotate_left
            · intro w hSw
              try dsimp only at hSw
              go_simp
              try with_reducible rfl
            try simp only [Act.put, List.setIfInBounds_toArray, List.set_cons_zero, List.set_cons_succ]
            refine rg_gen (i := 3) (v := ?_) rfl (by kernel_rfl) (by kernel_rfl) (by kernel_rfl) (fun _ _ _ h => h) rfl (by rfl) ?_ (by assumption) ?_
            rotate_left
            · intro w hSw
              try dsimp only at hSw
              go_simp
              try with_reducible rfl
            try simp only [Act.put, List.setIfInBounds_toArray, List.set_cons_zero, List.set_cons_succ]
            refine rg_row (i := 4) rfl (by kernel_rfl) (by kernel_rfl) (by kernel_rfl) (fun _ _ _ _ h => h) rfl (by rfl) 23 (.tmp 5) rfl w.heap.size 0 (u8s prev) rfl (fun W h => h) hu rfl (hash_info HPL.out) (by assumption) ?_
            try simp only [Act.put, List.setIfInBounds_toArray, List.set_cons_zero, List.set_cons_succ]
            refine rg_row (i := 5) rfl (by kernel_rfl) (by kernel_rfl) (by kernel_rfl) (fun _ _ _ _ h => h) rfl (by rfl) 23 (.tmp 5) rfl w.heap.size 0 (u8s prev) rfl (fun W h => h) hu rfl (hash_info HPL.out) (by assumption) ?_
            try simp only [Act.put, List.setIfInBounds_toArray, List.set_cons_zero, List.set_cons_succ]
            refine rg_gen (i := 6) (v := ?_) rfl (by kernel_rfl) (by kernel_rfl) (by kernel_rfl) (fun _ _ _ h => h) rfl (by rfl) ?_ (by assumption) ?_
            rotate_left
            · intro w hSw
              try dsimp only at hSw
              go_simp
              try with_reducible rfl
            try simp only [Act.put, List.setIfInBounds_toArray, List.set_cons_zero, List.set_cons_succ]
            refine rg_one (i := 7) (by kernel_rfl) rfl (fun K hK => ?_)
            go_simp
            go_at_call 81
            refine (HCH.out _).mono ?_
            rintro e w6 ⟨rfl, hb6⟩
            have hA6 := (hA5.next (Below.refl _ _).drew).next hb6
            go_wp2_with fail
            refine hK.out _ _ (KEEP.out _ hA6) (fun hHeld1 => ?_)
            clear hK K
            try simp only [Act.put, List.setIfInBounds_toArray, List.set_cons_zero, List.set_cons_succ]
            refine rg_build (i := 8) rfl (by kernel_rfl) (by kernel_rfl) (by kernel_rfl) (fun _ _ _ h => h) rfl (by rfl) 61 [(0, .tmp 48), (1, .tmp 49), (2, .tmp 50), (3, .tmp 51), (4, .tmp 52), (5, .tmp 55)] rfl [(0, .int .i64 index), (1, .int .i64 2), (2, .int .i64 time), (3, .string body), (4, .agg (u8s prev).toArray), (5, .agg (u8s hx).toArray)] rfl HBD.out (by assumption) ?_
            try simp only [Act.put, List.setIfInBounds_toArray, List.set_cons_zero, List.set_cons_succ]
            refine rg_one (i := 9) (by kernel_rfl) rfl (fun K hK => ?_)
            refine rg_store (by rfl) rfl 61 (.tmp 10) (.tmp 56) rfl (w.heap.size + 1) Q.cells zlRc 61 rfl rfl hA6.z HQL.out (rc_info HQW.out) (rc_one _) (fun W7 hU => ?_)
            have HB7 := Lib.hid (hU.below hA6.b (by omega))
            have hp7 := (hU.other w.heap.size (by omega)).trans hA6.p
            have hT7 := hU.at_
            refine hK.out _ _ (range_row hp7 id_at) (fun hHeld2 => ?_)
            clear hK K hA6 hA5 hU
            try simp only [Act.put, List.setIfInBounds_toArray, List.set_cons_zero, List.set_cons_succ]
            refine rg_gen (i := 10) (v := ?_) rfl (by kernel_rfl) (by kernel_rfl) (by kernel_rfl) (fun _ _ _ h => h) rfl (by rfl) ?_ (by assumption) ?_
            rotate_left
            · intro w hSw
              try dsimp only at hSw
              go_simp
              try with_reducible rfl
            try simp only [Act.put, List.setIfInBounds_toArray, List.set_cons_zero, List.set_cons_succ]
            refine wpAnyH_done (by kernel_rfl) ?_ _
            go_wp2_with fail
            exact post_cell_tmp 10 11 61 rfl (w.heap.size + 1) _ Q.cells _ _ hT7 Tryd.underlying61 rfl (rc_info HQW.out) (.int .i64 0) rfl rfl rfl ⟨by rw [HQF.out.1, HQF.out.2], HB7.out⟩
        · have hd3 : decide ((656 : Int) < body.size) = true := decide_eq_true (by omega)
          rcases hkk with ⟨rfl, hk1⟩ | ⟨rfl, hk1, hk2⟩
          · have HF := Lib.hid (HBAD.out (by rw [HGD.out, decide_eq_false h3, Bool.and_false]))
            clear h3
            go_enter Tryd.func42, Tryd.ntmps42
            go_wp2_with fail
            refine (HWI.out _).mono ?_
            rintro e w1 ⟨rfl, rfl⟩
            go_wp2_with fail
            refine (HWT.out _).mono ?_
            rintro e w1 ⟨rfl, rfl⟩
            have hz := HA0.out.z
            go_wp2_with (first
              | (with_reducible refine wpList_build rfl 61 [] rfl [] (.agg zlRc.toArray) rfl (rc_build0 _) ?_)
              | ((with_reducible refine wpList_store_whole rfl 61 (.tmp 10) (.tmp 35) rfl (w.heap.size + 1) zlRc zlRc 61 rfl rfl hz rfl zlRc_info zlRc_one ?_); intro w4 hU4))
            exact post_cell_tmp 10 11 61 rfl (w.heap.size + 1) _ zlRc _ _ hU4.out.at_ Tryd.underlying61 rfl zlRc_info (.int .i64 2) rfl rfl rfl ⟨by rw [HF.out.1, HF.out.2]; rfl, hU4.out.below HA0.out.b (by omega)⟩
          · have HF := Lib.hid (HBAD.out (by rw [HGD.out, decide_eq_false h3, Bool.and_false]))
            clear h3
            go_enter Tryd.func42, Tryd.ntmps42
            go_wp2_with fail
            refine (HWI.out _).mono ?_
            rintro e w1 ⟨rfl, rfl⟩
            go_wp2_with fail
            refine (HWT.out _).mono ?_
            rintro e w1 ⟨rfl, rfl⟩
            have hz := HA0.out.z
            go_wp2_with (first
              | (with_reducible refine wpList_build rfl 61 [] rfl [] (.agg zlRc.toArray) rfl (rc_build0 _) ?_)
              | ((with_reducible refine wpList_store_whole rfl 61 (.tmp 10) (.tmp 35) rfl (w.heap.size + 1) zlRc zlRc 61 rfl rfl hz rfl zlRc_info zlRc_one ?_); intro w4 hU4))
            exact post_cell_tmp 10 11 61 rfl (w.heap.size + 1) _ zlRc _ _ hU4.out.at_ Tryd.underlying61 rfl zlRc_info (.int .i64 2) rfl rfl rfl ⟨by rw [HF.out.1, HF.out.2]; rfl, hU4.out.below HA0.out.b (by omega)⟩
      · have hk1 : (kind != 1) = true := by rw [bne_iff_ne]; omega
        have hk2 : (kind != 2) = true := by rw [bne_iff_ne]; omega
        have HF := Lib.hid (HBAD.out (by rw [HGD.out, decide_eq_false (show ¬ kind = 1 by omega), decide_eq_false (show ¬ kind = 2 by omega)]; simp))
        clear hk
        go_enter Tryd.func42, Tryd.ntmps42
        go_wp2_with fail
        refine (HWI.out _).mono ?_
        rintro e w1 ⟨rfl, rfl⟩
        go_wp2_with fail
        refine (HWT.out _).mono ?_
        rintro e w1 ⟨rfl, rfl⟩
        have hz := HA0.out.z
        go_wp2_with (first
          | (with_reducible refine wpList_build rfl 61 [] rfl [] (.agg zlRc.toArray) rfl (rc_build0 _) ?_)
          | ((with_reducible refine wpList_store_whole rfl 61 (.tmp 10) (.tmp 35) rfl (w.heap.size + 1) zlRc zlRc 61 rfl rfl hz rfl zlRc_info zlRc_one ?_); intro w4 hU4))
        exact post_cell_tmp 10 11 61 rfl (w.heap.size + 1) _ zlRc _ _ hU4.out.at_ Tryd.underlying61 rfl zlRc_info (.int .i64 2) rfl rfl rfl ⟨by rw [HF.out.1, HF.out.2]; rfl, hU4.out.below HA0.out.b (by omega)⟩
end Go.Proofs.YtckfdmkjeocadaaDoor
