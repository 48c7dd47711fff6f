/- cavalcaderef13.Read: what the call does. -/
import Derived.Test.YtbeooeihedhabaaDoorBxBox
import Derived.Test.YtbeooeihedhabaaDoorBxRRead
import Derived.Test.YtbeooeihedhabaaDoorRSeal
namespace Go.Proofs.YtbeooeihedhabaaDoor
open Go.RowKit
set_option maxHeartbeats 4000000
set_option maxRecDepth 4000
theorem bxrread_any (s : ByteArray) (w : World) (hs : s.size ≤ 140737488355328) :
    Calls Tryd.prog 14 #[.string s] w fun e w' => Below w.heap.size w w' ∧ RbxRes w (rdBox s) e w' := by
  have hC := r4list_nil s (w.alloc (.cells zlB.toArray 24)) hs
  have hz0' := heap_alloc_new w (.cells zlB.toArray 24)
  have HB0 := Lib.hid (bw_alloc (Below.refl w.heap.size w) (.cells zlB.toArray 24))
  have hs0 : (w.alloc (.cells zlB.toArray 24)).heap.size = w.heap.size + 1 := by simp
  cases hr : rdAll s with
  | error x =>
    have hx0 : (x != 0) = true := rdAll_err hr
    have HNB : Hid (rdBox s = .error 6) := show _ = _ from rdBox_err hr
    rw [hr] at hC
    have HC : Hid (Calls Tryd.prog 37 #[.string s] (w.alloc (.cells zlB.toArray 24)) fun e w' => Below (w.alloc (.cells zlB.toArray 24)).heap.size (w.alloc (.cells zlB.toArray 24)) w' ∧ e = .returned (.tuple #[.slice none 0 0, .int .i64 x])) := hC
    rw [hs0] at HC
    have HZ := Lib.hid hz0'
    clear hr hs hs0 hz0' hC
    go_enter Tryd.func14, Tryd.ntmps14
    go_wp2_with fail
    refine HC.out.mono ?_
    rintro e w1 ⟨hb1, rfl⟩
    have HBX : Hid (Below w.heap.size w w1) := show Below _ _ _ from HB0.out.trans (hb1.mono (by omega))
    have hz : w1.heap[w.heap.size]? = some (.cells zlB.toArray 24 (0, 0)) := (hb1.block _ (by omega)).trans HZ.out
    clear hb1
    go_wp2_with ((with_reducible refine wpList_store_whole rfl 24 (.tmp 2) (.tmp 27) rfl w.heap.size zlB zlB 24 rfl rfl hz rfl (batch_info _ rfl) batch_one ?_); intro w7 hU)
    exact post_cell_tmp 2 3 24 rfl w.heap.size _ zlB _ _ hU.out.at_ Tryd.underlying24 rfl (batch_info _ rfl) (.int .i64 6) rfl rfl rfl ⟨hU.out.below HBX.out (Nat.le_refl _), by rw [HNB.out]; rfl⟩
  | ok ts =>
    rw [hr] at hC
    have HC : Hid (Calls Tryd.prog 37 #[.string s] (w.alloc (.cells zlB.toArray 24)) fun e w' => Below (w.alloc (.cells zlB.toArray 24)).heap.size (w.alloc (.cells zlB.toArray 24)) w' ∧ ∃ v, e = .returned (.tuple #[v, .int .i64 0]) ∧ w'.ownsRow (w.alloc (.cells zlB.toArray 24)).heap.size 9 1 v ts.length (strs ts)) := hC
    rw [hs0] at HC
    have HZ := Lib.hid hz0'
    have HA := Lib.hid hr
    have HSZ := Lib.hid (rdAll_sizes hr)
    obtain ⟨n, hn⟩ : ∃ n, n = ts.length := ⟨_, rfl⟩
    rw [← hn] at HC
    have HNN := Lib.hid hn
    clear hs0 hz0' hC hn hr hs
    by_cases hn2 : n = 2
    · obtain ⟨a, t, hts⟩ : ∃ a t, ts = [a, t] := by
        have hl := HNN.out
        match ts, hl with
        | [a, t], _ => exact ⟨a, t, rfl⟩
        | [], h => simp at h; omega
        | [_], h => simp at h; omega
        | _ :: _ :: _ :: _, h => simp at h; omega
      subst hts
      subst hn2
      have HBB := Lib.hid (rdBox_two HA.out)
      have hsA := HSZ.out a (by simp)
      have hst := HSZ.out t (by simp)
      by_cases ht2 : t.size = 32
      · have q2 : ((t.size : Int) != 32) = false := by rw [ht2]; rfl
        have HB2 : Hid (rdBox s = if tagOf 64 4 a.data.toList = t.data.toList then rdIn a else .error 21) := show _ = _ from by rw [HBB.out, if_pos ht2]
        have HTL : Hid (t.data.toList.length = 32) := show _ = _ from ht2
        have HH := Lib.hid (fun W => r4hash_any t W ht2)
        have HK := Lib.hid (fun W => rchk_ok 64 4 a t.data.toList W (by decide) (by decide) (by decide) (by decide) (by omega) ht2)
        clear ht2
        go_enter Tryd.func14, Tryd.ntmps14
        go_wp2_with fail
        refine HC.out.mono ?_
        rintro e w1 ⟨hb1, v, rfl, ho1⟩
        have HBX : Hid (Below w.heap.size w w1) := show Below _ _ _ from HB0.out.trans (hb1.mono (by omega))
        have hz : w1.heap[w.heap.size]? = some (.cells zlB.toArray 24 (0, 0)) := (hb1.block _ (by omega)).trans HZ.out
        obtain ⟨q, cq, rfl⟩ := row_shape ho1
        clear hb1
        obtain ⟨g, hq, hgl, g0, g1⟩ : ∃ g, q = some ⟨g, 0, none⟩ ∧ g < w1.heap.size ∧ w1.cell? ⟨g, 0, none⟩ = some (.string a) ∧ w1.cell? ⟨g, 1, none⟩ = some (.string t) := by
          rcases ho1.2 with ⟨_, h0⟩ | ⟨g, cap, cur, he, hb, hg, _, _, _, ht⟩
          · cases h0
          · injection he with e1 e2 e3
            refine ⟨g, e1, block_lt hg, ?_, ?_⟩ <;> rw [cell_of_row _ _ _ _ _ _ hg, ← Array.getElem?_toList, ← List.getElem?_take_of_lt (show _ < 2 * 1 by decide), ht] <;> rfl
        subst hq
        have HGL := Lib.hid hgl
        clear ho1 hgl
        have KEEP := Lib.hid (fun W (h : Below w1.heap.size w1 W) => (show W.cell? ⟨g, 0, none⟩ = some (.string a) ∧ W.cell? ⟨g, 1, none⟩ = some (.string t) from ⟨(h.cell (p := ⟨g, 0, none⟩) HGL.out).trans g0, (h.cell (p := ⟨g, 1, none⟩) HGL.out).trans g1⟩))
        go_wp2_with fail
        refine wp_region_held_drew (S := fun W => W.cell? ⟨g, 0, none⟩ = some (.string a) ∧ W.cell? ⟨g, 1, none⟩ = some (.string t)) (by kernel_rfl) ⟨g0, g1⟩ (fun _ => ?_)
        refine rg_gen (i := 0) (v := ?_) rfl (by kernel_rfl) (by kernel_rfl) (by kernel_rfl) (fun _ _ _ h => h) rfl (by rfl) ?_ (by assumption) ?_
        rotate_left
        · intro w hSw
          try dsimp only at hSw
          go_simp
          try with_reducible rfl
        try simp only [Act.put, List.setIfInBounds_toArray, List.set_cons_zero, List.set_cons_succ]
        refine rg_gen (i := 1) (v := ?_) rfl (by kernel_rfl) (by kernel_rfl) (by kernel_rfl) (fun _ _ _ h => h) rfl (by rfl) ?_ (by assumption) ?_
        rotate_left
        · intro w hSw
          try dsimp only at hSw
          go_simp
          try with_reducible rfl
        try simp only [Act.put, List.setIfInBounds_toArray, List.set_cons_zero, List.set_cons_succ]
        refine rg_gen (i := 2) (v := ?_) rfl (by kernel_rfl) (by kernel_rfl) (by kernel_rfl) (fun _ _ _ h => h) rfl (by rfl) ?_ (by assumption) ?_
        rotate_left
        · intro w hSw
          try dsimp only at hSw
          go_simp
          try with_reducible rfl
        try simp only [Act.put, List.setIfInBounds_toArray, List.set_cons_zero, List.set_cons_succ]
        refine rg_gen (i := 3) (v := ?_) rfl (by kernel_rfl) (by kernel_rfl) (by kernel_rfl) (fun _ _ _ h => h) rfl (by rfl) ?_ (by assumption) ?_
        rotate_left
        · intro w hSw
          try dsimp only at hSw
          go_simp
          try with_reducible rfl
        try simp only [Act.put, List.setIfInBounds_toArray, List.set_cons_zero, List.set_cons_succ]
        refine rg_gen (i := 4) (v := ?_) rfl (by kernel_rfl) (by kernel_rfl) (by kernel_rfl) (fun _ _ _ h => h) rfl (by rfl) ?_ (by assumption) ?_
        rotate_left
        · intro w hSw
          try dsimp only at hSw
          go_simp
          try with_reducible rfl
        try simp only [Act.put, List.setIfInBounds_toArray, List.set_cons_zero, List.set_cons_succ]
        refine rg_gen (i := 5) (v := ?_) rfl (by kernel_rfl) (by kernel_rfl) (by kernel_rfl) (fun _ _ _ h => h) rfl (by rfl) ?_ (by assumption) ?_
        rotate_left
        · intro w hSw
          try dsimp only at hSw
          go_simp
          try with_reducible rfl
        try simp only [Act.put, List.setIfInBounds_toArray, List.set_cons_zero, List.set_cons_succ]
        refine rg_one (i := 6) (by kernel_rfl) rfl (fun K hK => ?_)
        go_simp
        go_at_call 39
        refine (HH.out _).mono ?_
        rintro e w2 ⟨rfl, hb2⟩
        have HB22 : Hid (Below w1.heap.size w1 w2) := show Below _ _ _ from ((Below.refl w1.heap.size w1).drew).trans hb2
        clear hb2
        go_wp2_with fail
        refine hK.out _ _ (KEEP.out _ HB22.out) (fun _ => ?_)
        clear hK K
        try simp only [Act.put, List.setIfInBounds_toArray, List.set_cons_zero, List.set_cons_succ]
        refine rg_one (i := 7) (by kernel_rfl) rfl (fun K hK => ?_)
        go_simp
        go_at_call 38
        refine (HK.out _).mono ?_
        rintro e w3 ⟨rfl, hb3⟩
        have HB3 : Hid (Below w1.heap.size w1 w3) := show Below _ _ _ from bw_call HB22.out hb3
        clear hb3
        go_wp2_with fail
        refine hK.out _ _ (KEEP.out _ HB3.out) (fun _ => ?_)
        clear hK K
        try simp only [Act.put, List.setIfInBounds_toArray, List.set_cons_zero, List.set_cons_succ]
        refine rg_gen (i := 8) (v := ?_) rfl (by kernel_rfl) (by kernel_rfl) (by kernel_rfl) (fun _ _ _ h => h) rfl (by rfl) ?_ (by assumption) ?_
        rotate_left
        · intro w hSw
          try dsimp only at hSw
          go_simp
          try with_reducible rfl
        try simp only [Act.put, List.setIfInBounds_toArray, List.set_cons_zero, List.set_cons_succ]
        refine wpAnyH_done (by kernel_rfl) ?_ _
        have HB4 : Hid (Below w.heap.size w w3) := show Below _ _ _ from HBX.out.trans (HB3.out.mono HBX.out.size)
        have hz4 := (HB3.out.block _ (block_lt hz)).trans hz
        obtain ⟨m0, m1⟩ := KEEP.out _ HB3.out
        clear g0 g1 hz
        by_cases htg : tagOf 64 4 a.data.toList = t.data.toList
        · have q4 : (errTag (tagOf 64 4 a.data.toList) t.data.toList != 0) = false := by unfold errTag; rw [if_pos htg]; rfl
          have q3 : (errTag (tagOf (64 : Int).toNat (4 : Int).toNat a.data.toList) t.data.toList != 0) = false := q4
          have HB5 : Hid (rdBox s = rdIn a) := show _ = _ from by rw [HB2.out, if_pos htg]
          have HO := ropen8_any a 32768 w3 (by omega)
          clear htg
          cases ho : openL a.data.toList 32768 with
          | error x =>
            have hx0 := openL_err ho
            rw [ho] at HO
            have HO : Hid (Calls Tryd.prog 40 #[.string a, .int .i64 32768] w3 fun e w' => e = .returned (.tuple #[.string ⟨#[]⟩, .int .i64 x]) ∧ Below w3.heap.size w3 w') := HO
            have HNB : Hid (rdBox s = .error 7) := show _ = _ from by rw [HB5.out]; unfold rdIn; rw [ho]
            clear ho
            go_wp2_with fail
            refine HO.out.mono ?_
            rintro e w5 ⟨rfl, hb5⟩
            have HBX := Lib.hid (bw_call HB4.out hb5)
            have hz := (hb5.block _ (block_lt hz4)).trans hz4
            clear hb5
            go_wp2_with ((with_reducible refine wpList_store_whole rfl 24 (.tmp 2) (.tmp 47) rfl w.heap.size zlB zlB 24 rfl rfl hz rfl (batch_info _ rfl) batch_one ?_); intro w7 hU)
            exact post_cell_tmp 2 3 24 rfl w.heap.size _ zlB _ _ hU.out.at_ Tryd.underlying24 rfl (batch_info _ rfl) (.int .i64 7) rfl rfl rfl ⟨hU.out.below HBX.out (Nat.le_refl _), by rw [HNB.out]; rfl⟩
          | ok x =>
            have hxl := openL_len ho
            rw [ho] at HO
            have HO : Hid (Calls Tryd.prog 40 #[.string a, .int .i64 32768] w3 fun e w' => e = .returned (.tuple #[.string (bstr x), .int .i64 0]) ∧ Below w3.heap.size w3 w') := HO
            have HB6 : Hid (rdBox s = match rdB (bstr x) with | none => .error 6 | some b => .ok b) := show _ = _ from by rw [HB5.out]; unfold rdIn; rw [ho]; try rfl
            have HRD := Lib.hid (fun W => rrbatch_any (bstr x) W (by rw [bstr_size]; omega))
            clear ho hxl
            generalize bstr x = X at *
            go_wp2_with fail
            refine HO.out.mono ?_
            rintro e w5 ⟨rfl, hb5⟩
            have HB5x := Lib.hid (bw_call HB4.out hb5)
            have hz5 := (hb5.block _ (block_lt hz4)).trans hz4
            clear hb5 hz4 m0 m1
            go_wp2_with fail
            refine (HRD.out _).mono ?_
            rintro e w6 ⟨hb6, hRes⟩
            have HBX := Lib.hid (bw_call HB5x.out hb6)
            have hz := (hb6.block _ (block_lt hz5)).trans hz5
            have HS6 : Hid (w.heap.size < w5.heap.size) := show _ < _ from block_lt hz5
            clear hb6 hz5
            cases hrb : rdB X with
            | none =>
              rw [hrb] at hRes
              have he : e = .returned (.tuple #[.agg zlB.toArray, .int .i64 6]) := hRes
              subst he
              have HNB : Hid (rdBox s = .error 6) := show _ = _ from by rw [HB6.out, hrb]
              clear hrb hRes
              go_wp2_with ((with_reducible refine wpList_store_whole rfl 24 (.tmp 2) (.tmp 50) rfl w.heap.size zlB zlB 24 rfl rfl hz rfl (batch_info _ rfl) batch_one ?_); intro w7 hU)
              exact post_cell_tmp 2 3 24 rfl w.heap.size _ zlB _ _ hU.out.at_ Tryd.underlying24 rfl (batch_info _ rfl) (.int .i64 6) rfl rfl rfl ⟨hU.out.below HBX.out (Nat.le_refl _), by rw [HNB.out]; rfl⟩
            | some b =>
              rw [hrb] at hRes
              obtain ⟨v, rfl, hrows⟩ := hRes
              have HNB : Hid (rdBox s = .ok b) := show _ = _ from by rw [HB6.out, hrb]
              have HRW := Lib.hid hrows
              obtain ⟨qv, cv, hqv⟩ : ∃ qv cv, v = .slice qv b.parts.length cv := by
                obtain ⟨A, c', h, _⟩ := hrows
                exact ⟨A, c', by rw [h, List.length_map]⟩
              subst hqv
              clear hrb hrows
              go_wp2_with ((with_reducible refine wpList_store_whole rfl 24 (.tmp 2) (.tmp 50) rfl w.heap.size (b.cells (.slice qv b.parts.length cv)) zlB 24 rfl rfl hz rfl (batch_info _ rfl) (bcells_one b qv b.parts.length cv) ?_); intro w7 hU)
              refine post_cell_tmp 2 3 24 rfl w.heap.size _ (b.cells (.slice qv b.parts.length cv)) _ _ hU.out.at_ Tryd.underlying24 rfl (batch_info _ rfl) (.int .i64 0) rfl rfl rfl ⟨hU.out.below HBX.out (Nat.le_refl _), ?_⟩
              rw [HNB.out]
              refine ⟨_, rfl, (HRW.out.kept (Nat.le_of_eq hU.out.size.symm) fun k _ hk => hU.out.other k ?_).mono fun k _ hk => Nat.le_trans (Nat.le_of_lt HS6.out) hk⟩
              have := HS6.out
              omega
        · have q4 : (errTag (tagOf 64 4 a.data.toList) t.data.toList != 0) = true := by unfold errTag; rw [if_neg htg]; rfl
          have q3 : (errTag (tagOf (64 : Int).toNat (4 : Int).toNat a.data.toList) t.data.toList != 0) = true := q4
          have HNB : Hid (rdBox s = .error 21) := show _ = _ from by rw [HB2.out, if_neg htg]
          have HBX := HB4
          have hz := hz4
          clear htg
          go_wp2_with ((with_reducible refine wpList_store_whole rfl 24 (.tmp 2) (.tmp 37) rfl w.heap.size zlB zlB 24 rfl rfl hz rfl (batch_info _ rfl) batch_one ?_); intro w7 hU)
          exact post_cell_tmp 2 3 24 rfl w.heap.size _ zlB _ _ hU.out.at_ Tryd.underlying24 rfl (batch_info _ rfl) (.int .i64 21) rfl rfl rfl ⟨hU.out.below HBX.out (Nat.le_refl _), by rw [HNB.out]; rfl⟩
      · have q2 : ((t.size : Int) != 32) = true := by rw [bne_iff_ne]; omega
        have HNB : Hid (rdBox s = .error 6) := show _ = _ from by rw [HBB.out, if_neg ht2]
        clear ht2
        go_enter Tryd.func14, Tryd.ntmps14
        go_wp2_with fail
        refine HC.out.mono ?_
        rintro e w1 ⟨hb1, v, rfl, ho1⟩
        have HBX : Hid (Below w.heap.size w w1) := show Below _ _ _ from HB0.out.trans (hb1.mono (by omega))
        have hz : w1.heap[w.heap.size]? = some (.cells zlB.toArray 24 (0, 0)) := (hb1.block _ (by omega)).trans HZ.out
        obtain ⟨q, cq, rfl⟩ := row_shape ho1
        clear hb1
        obtain ⟨g, hq, hgl, g0, g1⟩ : ∃ g, q = some ⟨g, 0, none⟩ ∧ g < w1.heap.size ∧ w1.cell? ⟨g, 0, none⟩ = some (.string a) ∧ w1.cell? ⟨g, 1, none⟩ = some (.string t) := by
          rcases ho1.2 with ⟨_, h0⟩ | ⟨g, cap, cur, he, hb, hg, _, _, _, ht⟩
          · cases h0
          · injection he with e1 e2 e3
            refine ⟨g, e1, block_lt hg, ?_, ?_⟩ <;> rw [cell_of_row _ _ _ _ _ _ hg, ← Array.getElem?_toList, ← List.getElem?_take_of_lt (show _ < 2 * 1 by decide), ht] <;> rfl
        subst hq
        have HGL := Lib.hid hgl
        clear ho1 hgl
        go_wp2_with ((with_reducible refine wpList_store_whole rfl 24 (.tmp 2) (.tmp 27) rfl w.heap.size zlB zlB 24 rfl rfl hz rfl (batch_info _ rfl) batch_one ?_); intro w7 hU)
        exact post_cell_tmp 2 3 24 rfl w.heap.size _ zlB _ _ hU.out.at_ Tryd.underlying24 rfl (batch_info _ rfl) (.int .i64 6) rfl rfl rfl ⟨hU.out.below HBX.out (Nat.le_refl _), by rw [HNB.out]; rfl⟩
    · have q2 : ((n : Int) != 2) = true := by rw [bne_iff_ne]; omega
      have HNB : Hid (rdBox s = .error 6) := show _ = _ from rdBox_len HA.out (by rw [← HNN.out]; exact hn2)
      go_enter Tryd.func14, Tryd.ntmps14
      go_wp2_with fail
      refine HC.out.mono ?_
      rintro e w1 ⟨hb1, v, rfl, ho1⟩
      have HBX : Hid (Below w.heap.size w w1) := show Below _ _ _ from HB0.out.trans (hb1.mono (by omega))
      have hz : w1.heap[w.heap.size]? = some (.cells zlB.toArray 24 (0, 0)) := (hb1.block _ (by omega)).trans HZ.out
      obtain ⟨q, cq, rfl⟩ := row_shape ho1
      clear hb1
      go_wp2_with ((with_reducible refine wpList_store_whole rfl 24 (.tmp 2) (.tmp 27) rfl w.heap.size zlB zlB 24 rfl rfl hz rfl (batch_info _ rfl) batch_one ?_); intro w7 hU)
      exact post_cell_tmp 2 3 24 rfl w.heap.size _ zlB _ _ hU.out.at_ Tryd.underlying24 rfl (batch_info _ rfl) (.int .i64 6) rfl rfl rfl ⟨hU.out.below HBX.out (Nat.le_refl _), by rw [HNB.out]; rfl⟩
end Go.Proofs.YtbeooeihedhabaaDoor
