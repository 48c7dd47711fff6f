/- cavalcadelaw19.OrderDoes: what the call does. -/
import Derived.Test.YtckfdmkjeocadaaDoorDoAt
import Derived.Deep.CutBlock
namespace Go.Proofs.YtckfdmkjeocadaaDoor
open Go.RowKit
set_option maxHeartbeats 8000000
set_option maxRecDepth 4000
def ACT.zero : ACT := ⟨0, 0, ByteArray.empty, false, RC.zero⟩
theorem ACT.zero_wf : ACT.zero.wf := ⟨i64_zero, i64_zero, by decide, RC.zero_wf⟩
theorem act_one (a : ACT) : ∀ v ∈ a.cells, v.oneCell' = true := by
  intro v hv
  unfold ACT.cells actQ at hv
  rcases List.mem_cons.1 hv with rfl | hv
  · rfl
  rcases List.mem_cons.1 hv with rfl | hv
  · rfl
  rcases List.mem_cons.1 hv with rfl | hv
  · rfl
  rcases List.mem_cons.1 hv with rfl | hv
  · rfl
  exact rc_one _ v hv
theorem orderDoes_any (acts : List ACT) (v : Value) (i who : Int) (w : World) (hA : ActsAt w v acts) (hwf : ∀ a ∈ acts, a.wf) (hR : RoundsAt w) :
    Calls Tryd.prog 11 #[v, .int .i64 i, .int .i64 who] w fun e w' => e = .returned (.bool true) ∧ Below w.heap.size w w' := by
  obtain ⟨q, c, rfl, hq⟩ := hA
  have HQ := Lib.hid hq
  have HAF := Lib.hid hwf
  have HR := Lib.hid hR
  obtain ⟨m, hm⟩ : ∃ m, m = acts.length := ⟨_, rfl⟩
  rw [← hm]
  have HM := Lib.hid hm
  clear hq hwf hR hm
  go_enter Tryd.func11, Tryd.ntmps11
  go_wp2_with fail
  refine (new_log _).mono ?_
  rintro e w1 ⟨rfl, hL1, hb1⟩
  have HD1 : Hid (DoAt w w1 (.slice none 0 0) (.slice none 0 0) [] [] []) := show DoAt _ _ _ _ _ _ _ from ⟨hb1, hL1, own_nil _ _ _ _, fun k hk => by simp [Value.ownBlock] at hk, fun y hy => absurd hy (by simp), List.Pairwise.nil⟩
  clear hL1 hb1
  go_wp2_with fail
  refine (awake19_any _ (HR.out.below HD1.out.b HR.out.1)).mono ?_
  rintro e w2 ⟨rfl, hb2⟩
  have HD2 := Lib.hid (HD1.out.next hb2)
  clear hb2 HD1
  go_upto_block 0 with fail
  go_cut [8] (fun x wx => ∃ (qx : Option Addr) (n cx : Nat) (sv : Value) (rs : List RC), x = .slice qx n cx ∧ n ≤ 40 ∧ Hid (n = rs.length) ∧ Hid (Chain rs) ∧ Hid (DoAt w wx sv (.slice qx n cx) rs rs []))
  case first =>
    go_wp2_with fail
    go_loopw [8, 9] (fun x k wr => ∃ (j : Nat) (qx : Option Addr) (n cx : Nat) (sv : Value) (rs : List RC), j ≤ 40 ∧ n ≤ j ∧ x = .slice qx n cx ∧ k = .int .i64 j ∧ Hid (n = rs.length) ∧ Hid (Chain rs) ∧ Hid (DoAt w wr sv (.slice qx n cx) rs rs [])) (fun _ k _ => 40 - (intOf k).toNat)
    case atStart => exact ⟨0, none, 0, 0, .slice none 0 0, [], by omega, by omega, rfl, rfl, show 0 = _ from rfl, Chain.nil, HD2⟩
    case round =>
      obtain ⟨j, qx, n, cx, sv, rs, hj, hnj, rfl, rfl, HN, HC, HD⟩ := hrel
      by_cases hlt : j < m
      · have hd0 : decide ((j : Int) < m) = true := decide_eq_true (by omega)
        by_cases h40 : j < 40
        · have hd1 : decide ((j : Int) < 40) = true := decide_eq_true (by omega)
          have hl2 : j < acts.length := by have := HM.out; omega
          rcases HQ.out with h | ⟨b, off, rfl, hbw, hat⟩
          · exact absurd hl2 (by rw [h]; simp)
          obtain ⟨a, ha⟩ : ∃ a, a = acts[j]'hl2 := ⟨_, rfl⟩
          have HAW : Hid a.wf := show _ from by rw [ha]; exact HAF.out _ (List.getElem_mem hl2)
          have HRG : Hid (wr.rangeAt b (off + j * 72) a.cells) := show World.rangeAt _ _ _ _ from range_below (by rw [ha]; exact hat j hl2) HD.out.b hbw
          have HWF : Hid (∀ r ∈ rs, r.wf) := show ∀ r ∈ _, _ from HD.out.lg.wf
          have f0 : (0 : Int) ≤ j := by omega
          have f1 : (j : Int) < m := by omega
          have hz0 : (wr.alloc (.cells Tryd.zeroCells71 71)).heap[wr.heap.size]? = some (.cells ACT.zero.cells.toArray 71 (0, 0)) := heap_alloc_new wr _
          have HLEN : Hid (a.cells.length = ACT.zero.cells.length) := show _ = _ from by rw [ACT.cells_length HAW.out, ACT.cells_length ACT.zero_wf]
          have HD0 := Lib.hid (HD.out.fresh Tryd.zeroCells71 71)
          clear hat hl2 ha hlt HD
          go_upto_region 9 with (first
            | (with_reducible refine wpList_load_mid rfl 71 (.tmp 42) rfl b (off + j * 72) rfl a.cells _ HRG.out Tryd.underlying71 rfl (act_info HAW.out) ?_)
            | ((with_reducible refine wpList_store_whole rfl 71 (.tmp 10) (.tmp 43) rfl wr.heap.size a.cells ACT.zero.cells 71 rfl rfl hz0 HLEN.out (act_info HAW.out) (act_one a) ?_); intro w3 hU3))
          have HD3 := Lib.hid (HD0.out.upd hU3.out)
          generalize wr.heap.size = b10 at *
          clear hU3 hz0 HD0 HLEN HRG
          have KEEP : Hid (∀ W : World, W.heap[b10]? = some (.cells a.cells.toArray 71 (0, 0)) → W.rangeAt b10 0 a.cells ∧ W.cell? ⟨b10, 0, none⟩ = some (.int .i64 a.kd) ∧ W.cell? ⟨b10, 2, none⟩ = some (.string a.body)) := show ∀ W : World, _ from fun W h => ⟨range_row h id_at, by rw [cell_of_row W b10 0 _ _ _ h]; rfl, by rw [cell_of_row W b10 2 _ _ _ h]; rfl⟩
          have c3 : w3.cell? ⟨b10, 3, none⟩ = some (.bool a.ld) := by rw [cell_of_row w3 b10 3 _ _ _ HD3.out.e0]; rfl
          have HTM : Hid (∀ r ∈ rs, 0 ≤ r.time ∧ r.time ≤ 1099511627776) := show ∀ r ∈ _, _ from chain_time HC.out
          have HSM : Hid (rs.length ≤ 40) := show _ ≤ _ by have := HN.out; omega
          -- BODY
          cases hld : a.ld
          · rw [hld] at c3
            clear hld
            -- ADD
            obtain ⟨tt, htt⟩ : ∃ x, x = timeOf rs a.lt := ⟨_, rfl⟩
            have HTT := Lib.hid htt
            obtain ⟨nrs, hnrs⟩ : ∃ x, x = nextRs rs a.kd a.body tt := ⟨_, rfl⟩
            obtain ⟨mr, hmr⟩ : ∃ x, x = mkRc rs (cnt rs) a.kd a.body tt := ⟨_, rfl⟩
            obtain ⟨er, her⟩ : ∃ x, x = mkErr rs (cnt rs) a.kd a.body tt := ⟨_, rfl⟩
            have hit : i64ok tt := by rw [htt]; exact timeOf_ok HAW.out.lt HTM.out
            have HNX : Hid (Chain nrs ∧ (er = 0 → nrs = rs ++ [mr]) ∧ (er ≠ 0 → nrs = rs)) := show _ ∧ _ from by
              rw [hnrs, hmr, her]
              exact ⟨HC.out.next, fun h => (next_ok h).1, fun h => next_bad h⟩
            have HRW : Hid mr.wf := show _ from by rw [hmr]; exact mkRc_wf HWF.out (Nat.le_trans HSM.out (by decide)) HAW.out.kd hit HAW.out.body
            have HRL : Hid (mr.cells.length = zlRc.length) := show _ = _ from rc_len HRW.out
            have HADD : Hid (∀ (W : World) (sv : Value), LgAt W (w.heap.size + 1) w.heap.size sv rs (cnt rs) → RoundsAt W → Calls Tryd.prog 50 #[.pointer (some ⟨w.heap.size, 0, none⟩), .int .i64 a.kd, .string a.body, .int .i64 (timeOf rs a.lt)] W fun e w' =>
                e = .returned (.tuple #[.agg mr.cells.toArray, .int .i64 er]) ∧ (∃ sv', LgAt w' (w.heap.size + 1) w.heap.size sv' nrs (cnt nrs) ∧ OwnNew W sv sv') ∧ LgTurn W w' w.heap.size sv) := show ∀ W sv, _ from fun W sv hL hRR => by
              rw [hmr, her, hnrs, htt]
              rw [htt] at hit
              exact add_any (w.heap.size + 1) w.heap.size sv rs a.kd a.body _ W hL HAW.out.kd hit HAW.out.body hRR (Nat.lt_of_le_of_lt HSM.out (by decide)) hL.lts.1
            have HMAKE : Hid (∀ (W : World) (xv : Value), W.ownsRow w.heap.size 61 68 xv rs.length (rcells rs) → Calls Tryd.prog 49 #[xv, .int .i64 a.kd, .string a.body, .int .i64 (timeOf rs a.lt)] W fun e w' =>
                e = .returned (.tuple #[.agg mr.cells.toArray, .int .i64 er]) ∧ Below W.heap.size W w') := show ∀ W xv, _ from fun W xv hO => by
              rw [hmr, her, htt]
              rw [htt] at hit
              exact rmake_any w.heap.size xv rs a.kd _ a.body W hO HWF.out (Nat.le_trans HSM.out (by decide)) HAW.out.kd hit HAW.out.body
            have HOX : Hid (∀ W : World, W.ownsRow w.heap.size 61 68 (.slice qx n cx) rs.length (rcells rs) → W.ownsRow w.heap.size 61 68 (.slice qx n cx) rs.length (rcells rs)) := show ∀ W : World, _ from fun W h => h
            have hu : Tryd.prog.underlying 71 = some _ := Tryd.underlying71
            clear htt hnrs hmr her hit
            go_upto_region 17 with fail
            go_cut [15, 16] (fun p v16 wx => ∃ b15 sv4, p = .pointer (some ⟨b15, 0, none⟩) ∧ v16 = .int .i64 er ∧ Hid (DoAt w wx sv4 (.slice qx n cx) nrs rs [(b15, .cells mr.cells.toArray 61 (0, 0)), (b10, .cells a.cells.toArray 71 (0, 0))]))
            case first =>
              as_aux_lemma =>
                have HDd := Lib.hid (HD3.out.next (Below.refl _ _).drew)
                clear c3
                refine wp_region_held_drew (S := fun W => W.rangeAt b10 0 a.cells ∧ W.cell? ⟨b10, 0, none⟩ = some (.int .i64 a.kd) ∧ W.cell? ⟨b10, 2, none⟩ = some (.string a.body)) (by kernel_rfl) (KEEP.out _ HDd.out.e0) (fun _ => ?_)
                refine rg_gen (i := 0) (v := ?_) rfl (by kernel_rfl) (by kernel_rfl) (by kernel_rfl) (fun _ _ _ h => h) rfl (by rfl) ?_ (by assumption) ?_
                rotate_left
                · intro w hSw
                  try dsimp only at hSw
                  go_simp
                  try with_reducible rfl
                try simp only [Act.put, List.setIfInBounds_toArray, List.set_cons_zero, List.set_cons_succ]
                refine rg_gen (i := 1) (v := ?_) rfl (by kernel_rfl) (by kernel_rfl) (by kernel_rfl) (fun _ _ _ h => h) rfl (by rfl) ?_ (by assumption) ?_
                rotate_left
                · intro w hSw
                  try dsimp only at hSw
                  go_simp
                  try with_reducible rfl
                try simp only [Act.put, List.setIfInBounds_toArray, List.set_cons_zero, List.set_cons_succ]
                refine rg_gen (i := 2) (v := ?_) rfl (by kernel_rfl) (by kernel_rfl) (by kernel_rfl) (fun _ _ _ h => h) rfl (by rfl) ?_ (by assumption) ?_
                rotate_left
                · intro w hSw
                  try dsimp only at hSw
                  go_simp
                  try with_reducible rfl
                try simp only [Act.put, List.setIfInBounds_toArray, List.set_cons_zero, List.set_cons_succ]
                refine rg_gen (i := 3) (v := ?_) rfl (by kernel_rfl) (by kernel_rfl) (by kernel_rfl) (fun _ _ _ h => h) rfl (by rfl) ?_ (by assumption) ?_
                rotate_left
                · intro w hSw
                  try dsimp only at hSw
                  go_simp
                  try with_reducible rfl
                try simp only [Act.put, List.setIfInBounds_toArray, List.set_cons_zero, List.set_cons_succ]
                refine rg_gen (i := 4) (v := ?_) rfl (by kernel_rfl) (by kernel_rfl) (by kernel_rfl) (fun _ _ _ h => h) rfl (by rfl) ?_ (by assumption) ?_
                rotate_left
                · intro w hSw
                  try dsimp only at hSw
                  go_simp
                  try with_reducible rfl
                try simp only [Act.put, List.setIfInBounds_toArray, List.set_cons_zero, List.set_cons_succ]
                refine rg_gen (i := 5) (v := ?_) rfl (by kernel_rfl) (by kernel_rfl) (by kernel_rfl) (fun _ _ _ h => h) rfl (by rfl) ?_ (by assumption) ?_
                rotate_left
                · intro w hSw
                  try dsimp only at hSw
                  go_simp
                  try with_reducible rfl
                try simp only [Act.put, List.setIfInBounds_toArray, List.set_cons_zero, List.set_cons_succ]
                refine rg_row (i := 6) rfl (by kernel_rfl) (by kernel_rfl) (by kernel_rfl) (fun _ _ _ _ h => h) rfl (by rfl) 71 (.tmp 10) rfl b10 0 a.cells rfl (fun W h => h.1) hu rfl (act_info HAW.out) (by assumption) ?_
                try simp only [Act.put, List.setIfInBounds_toArray, List.set_cons_zero, List.set_cons_succ]
                refine wpAnyH_ready (rs := [7, 12]) (by kernel_rfl) (by simp) ?_
                refine AllReadyH.cons rfl (fun K hK => ?_) (AllReadyH.cons rfl (fun K hK => ?_) AllReadyH.nil)
                · go_simp
                  go_at_call 51
                  refine (ltime_any _ _ rs a.kd a.lt a.body a.ld a.r _ (HOX.out _ HDd.out.own) HWF.out HTM.out (Nat.le_trans HSM.out (by decide))).mono ?_
                  rintro e w5 ⟨rfl, hb⟩
                  have HD5 := Lib.hid (HDd.out.next hb)
                  clear hb
                  go_wp2_with fail
                  refine hK.out _ _ (KEEP.out _ HD5.out.e0) (fun _ => ?_)
                  clear hK K
                  try simp only [Act.put, List.setIfInBounds_toArray, List.set_cons_zero, List.set_cons_succ]
                  refine wpAnyH_ready (rs := [8, 12]) (by kernel_rfl) (by simp) ?_
                  refine AllReadyH.cons rfl (fun K hK => ?_) (AllReadyH.cons rfl (fun K hK => ?_) AllReadyH.nil)
                  · go_simp
                    go_at_call 50
                    refine (HADD.out _ _ HD5.out.lg (HR.out.below HD5.out.b HR.out.1)).mono ?_
                    rintro e w6 ⟨rfl, ⟨sv4, hL4, hn4⟩, hT4⟩
                    have HD6 := Lib.hid (HD5.out.turn hL4 hn4 hT4)
                    clear hL4 hn4 hT4
                    go_wp2_with fail
                    refine hK.out _ _ (KEEP.out _ HD6.out.e0) (fun _ => ?_)
                    clear hK K
                    try simp only [Act.put, List.setIfInBounds_toArray, List.set_cons_zero, List.set_cons_succ]
                    refine rg_gen (i := 9) (v := ?_) rfl (by kernel_rfl) (by kernel_rfl) (by kernel_rfl) (fun _ _ _ h => h) rfl (by rfl) ?_ (by assumption) ?_
                    rotate_left
                    · intro w hSw
                      try dsimp only at hSw
                      go_simp
                      try with_reducible rfl
                    try simp only [Act.put, List.setIfInBounds_toArray, List.set_cons_zero, List.set_cons_succ]
                    refine rg_gen (i := 10) (v := ?_) rfl (by kernel_rfl) (by kernel_rfl) (by kernel_rfl) (fun _ _ _ h => h) rfl (by rfl) ?_ (by assumption) ?_
                    rotate_left
                    · intro w hSw
                      try dsimp only at hSw
                      go_simp
                      try with_reducible rfl
                    try simp only [Act.put, List.setIfInBounds_toArray, List.set_cons_zero, List.set_cons_succ]
                    refine rg_gen (i := 11) (v := ?_) rfl (by kernel_rfl) (by kernel_rfl) (by kernel_rfl) (fun _ _ _ h => h) rfl (by rfl) ?_ (by assumption) ?_
                    rotate_left
                    · intro w hSw
                      try dsimp only at hSw
                      go_simp
                      try with_reducible rfl
                    try simp only [Act.put, List.setIfInBounds_toArray, List.set_cons_zero, List.set_cons_succ]
                    refine rg_one (i := 12) (by kernel_rfl) rfl (fun K hK => ?_)
                    refine rg_step (s := Instr.alloc 61 true (.tuple #[])) (by rfl) rfl rfl (rc_alloc w6) ?_
                    have HD7 := Lib.hid (HD6.out.fresh zlRc.toArray 61)
                    refine hK.out _ _ (KEEP.out _ HD7.out.e1) (fun _ => ?_)
                    clear hK K
                    try simp only [Act.put, List.setIfInBounds_toArray, List.set_cons_zero, List.set_cons_succ]
                    refine rg_one (i := 13) (by kernel_rfl) rfl (fun K hK => ?_)
                    refine rg_store (by rfl) rfl 61 (.tmp 15) (.tmp 99) rfl w6.heap.size mr.cells zlRc 61 rfl rfl HD7.out.e0 HRL.out (rc_info HRW.out) (rc_one _) (fun W8 hU => ?_)
                    have HD8 := Lib.hid (HD7.out.upd hU)
                    refine hK.out _ _ (KEEP.out _ HD8.out.e1) (fun _ => ?_)
                    clear hK K
                    try simp only [Act.put, List.setIfInBounds_toArray, List.set_cons_zero, List.set_cons_succ]
                    refine rg_gen (i := 14) (v := ?_) rfl (by kernel_rfl) (by kernel_rfl) (by kernel_rfl) (fun _ _ _ h => h) rfl (by rfl) ?_ (by assumption) ?_
                    rotate_left
                    · intro w hSw
                      try dsimp only at hSw
                      go_simp
                      try with_reducible rfl
                    try simp only [Act.put, List.setIfInBounds_toArray, List.set_cons_zero, List.set_cons_succ]
                    refine wpAnyH_done (by kernel_rfl) ?_ _
                    go_wp2_with fail
                    go_meet
                    case rel => exact ⟨w6.heap.size, sv4, rfl, rfl, HD8⟩
                  · refine rg_step (s := Instr.alloc 61 true (.tuple #[])) (by rfl) rfl rfl (rc_alloc w5) ?_
                    have HD6 := Lib.hid (HD5.out.fresh zlRc.toArray 61)
                    refine hK.out _ _ (KEEP.out _ HD6.out.e1) (fun _ => ?_)
                    clear hK K
                    try simp only [Act.put, List.setIfInBounds_toArray, List.set_cons_zero, List.set_cons_succ]
                    refine rg_one (i := 8) (by kernel_rfl) rfl (fun K hK => ?_)
                    go_simp
                    go_at_call 50
                    refine (HADD.out _ _ HD6.out.lg (HR.out.below HD6.out.b HR.out.1)).mono ?_
                    rintro e w7 ⟨rfl, ⟨sv4, hL4, hn4⟩, hT4⟩
                    have HD7 := Lib.hid (HD6.out.turn hL4 hn4 hT4)
                    clear hL4 hn4 hT4
                    go_wp2_with fail
                    refine hK.out _ _ (KEEP.out _ HD7.out.e1) (fun _ => ?_)
                    clear hK K
                    try simp only [Act.put, List.setIfInBounds_toArray, List.set_cons_zero, List.set_cons_succ]
                    refine rg_gen (i := 9) (v := ?_) rfl (by kernel_rfl) (by kernel_rfl) (by kernel_rfl) (fun _ _ _ h => h) rfl (by rfl) ?_ (by assumption) ?_
                    rotate_left
                    · intro w hSw
                      try dsimp only at hSw
                      go_simp
                      try with_reducible rfl
                    try simp only [Act.put, List.setIfInBounds_toArray, List.set_cons_zero, List.set_cons_succ]
                    refine rg_gen (i := 10) (v := ?_) rfl (by kernel_rfl) (by kernel_rfl) (by kernel_rfl) (fun _ _ _ h => h) rfl (by rfl) ?_ (by assumption) ?_
                    rotate_left
                    · intro w hSw
                      try dsimp only at hSw
                      go_simp
                      try with_reducible rfl
                    try simp only [Act.put, List.setIfInBounds_toArray, List.set_cons_zero, List.set_cons_succ]
                    refine rg_gen (i := 11) (v := ?_) rfl (by kernel_rfl) (by kernel_rfl) (by kernel_rfl) (fun _ _ _ h => h) rfl (by rfl) ?_ (by assumption) ?_
                    rotate_left
                    · intro w hSw
                      try dsimp only at hSw
                      go_simp
                      try with_reducible rfl
                    try simp only [Act.put, List.setIfInBounds_toArray, List.set_cons_zero, List.set_cons_succ]
                    refine rg_one (i := 13) (by kernel_rfl) rfl (fun K hK => ?_)
                    refine rg_store (by rfl) rfl 61 (.tmp 15) (.tmp 99) rfl w5.heap.size mr.cells zlRc 61 rfl rfl HD7.out.e0 HRL.out (rc_info HRW.out) (rc_one _) (fun W8 hU => ?_)
                    have HD8 := Lib.hid (HD7.out.upd hU)
                    refine hK.out _ _ (KEEP.out _ HD8.out.e1) (fun _ => ?_)
                    clear hK K
                    try simp only [Act.put, List.setIfInBounds_toArray, List.set_cons_zero, List.set_cons_succ]
                    refine rg_gen (i := 14) (v := ?_) rfl (by kernel_rfl) (by kernel_rfl) (by kernel_rfl) (fun _ _ _ h => h) rfl (by rfl) ?_ (by assumption) ?_
                    rotate_left
                    · intro w hSw
                      try dsimp only at hSw
                      go_simp
                      try with_reducible rfl
                    try simp only [Act.put, List.setIfInBounds_toArray, List.set_cons_zero, List.set_cons_succ]
                    refine wpAnyH_done (by kernel_rfl) ?_ _
                    go_wp2_with fail
                    go_meet
                    case rel => exact ⟨w5.heap.size, sv4, rfl, rfl, HD8⟩
                · refine rg_step (s := Instr.alloc 61 true (.tuple #[])) (by rfl) rfl rfl (rc_alloc w3.drew) ?_
                  have HD5 := Lib.hid (HDd.out.fresh zlRc.toArray 61)
                  refine hK.out _ _ (KEEP.out _ HD5.out.e1) (fun _ => ?_)
                  clear hK K
                  try simp only [Act.put, List.setIfInBounds_toArray, List.set_cons_zero, List.set_cons_succ]
                  refine rg_one (i := 7) (by kernel_rfl) rfl (fun K hK => ?_)
                  go_simp
                  go_at_call 51
                  refine (ltime_any _ _ rs a.kd a.lt a.body a.ld a.r _ (HOX.out _ HD5.out.own) HWF.out HTM.out (Nat.le_trans HSM.out (by decide))).mono ?_
                  rintro e w6 ⟨rfl, hb⟩
                  have HD6 := Lib.hid (HD5.out.next hb)
                  clear hb
                  go_wp2_with fail
                  refine hK.out _ _ (KEEP.out _ HD6.out.e1) (fun _ => ?_)
                  clear hK K
                  try simp only [Act.put, List.setIfInBounds_toArray, List.set_cons_zero, List.set_cons_succ]
                  refine rg_one (i := 8) (by kernel_rfl) rfl (fun K hK => ?_)
                  go_simp
                  go_at_call 50
                  refine (HADD.out _ _ HD6.out.lg (HR.out.below HD6.out.b HR.out.1)).mono ?_
                  rintro e w7 ⟨rfl, ⟨sv4, hL4, hn4⟩, hT4⟩
                  have HD7 := Lib.hid (HD6.out.turn hL4 hn4 hT4)
                  clear hL4 hn4 hT4
                  go_wp2_with fail
                  refine hK.out _ _ (KEEP.out _ HD7.out.e1) (fun _ => ?_)
                  clear hK K
                  try simp only [Act.put, List.setIfInBounds_toArray, List.set_cons_zero, List.set_cons_succ]
                  refine rg_gen (i := 9) (v := ?_) rfl (by kernel_rfl) (by kernel_rfl) (by kernel_rfl) (fun _ _ _ h => h) rfl (by rfl) ?_ (by assumption) ?_
                  rotate_left
                  · intro w hSw
                    try dsimp only at hSw
                    go_simp
                    try with_reducible rfl
                  try simp only [Act.put, List.setIfInBounds_toArray, List.set_cons_zero, List.set_cons_succ]
                  refine rg_gen (i := 10) (v := ?_) rfl (by kernel_rfl) (by kernel_rfl) (by kernel_rfl) (fun _ _ _ h => h) rfl (by rfl) ?_ (by assumption) ?_
                  rotate_left
                  · intro w hSw
                    try dsimp only at hSw
                    go_simp
                    try with_reducible rfl
                  try simp only [Act.put, List.setIfInBounds_toArray, List.set_cons_zero, List.set_cons_succ]
                  refine rg_gen (i := 11) (v := ?_) rfl (by kernel_rfl) (by kernel_rfl) (by kernel_rfl) (fun _ _ _ h => h) rfl (by rfl) ?_ (by assumption) ?_
                  rotate_left
                  · intro w hSw
                    try dsimp only at hSw
                    go_simp
                    try with_reducible rfl
                  try simp only [Act.put, List.setIfInBounds_toArray, List.set_cons_zero, List.set_cons_succ]
                  refine rg_one (i := 13) (by kernel_rfl) rfl (fun K hK => ?_)
                  refine rg_store (by rfl) rfl 61 (.tmp 15) (.tmp 99) rfl w3.drew.heap.size mr.cells zlRc 61 rfl rfl HD7.out.e0 HRL.out (rc_info HRW.out) (rc_one _) (fun W8 hU => ?_)
                  have HD8 := Lib.hid (HD7.out.upd hU)
                  refine hK.out _ _ (KEEP.out _ HD8.out.e1) (fun _ => ?_)
                  clear hK K
                  try simp only [Act.put, List.setIfInBounds_toArray, List.set_cons_zero, List.set_cons_succ]
                  refine rg_gen (i := 14) (v := ?_) rfl (by kernel_rfl) (by kernel_rfl) (by kernel_rfl) (fun _ _ _ h => h) rfl (by rfl) ?_ (by assumption) ?_
                  rotate_left
                  · intro w hSw
                    try dsimp only at hSw
                    go_simp
                    try with_reducible rfl
                  try simp only [Act.put, List.setIfInBounds_toArray, List.set_cons_zero, List.set_cons_succ]
                  refine wpAnyH_done (by kernel_rfl) ?_ _
                  go_wp2_with fail
                  go_meet
                  case rel => exact ⟨w3.drew.heap.size, sv4, rfl, rfl, HD8⟩
            case rest =>
              obtain ⟨b15, sv4, rfl, rfl, HD4⟩ := hcut
              clear HD3 c3
              go_upto_region 18 with fail
              go_cut [17, 18] (fun p v18 wx => ∃ b17, p = .pointer (some ⟨b17, 0, none⟩) ∧ v18 = .int .i64 er ∧ Hid (DoAt w wx sv4 (.slice qx n cx) nrs rs [(b17, .cells mr.cells.toArray 61 (0, 0)), (b15, .cells mr.cells.toArray 61 (0, 0)), (b10, .cells a.cells.toArray 71 (0, 0))]))
              case first =>
                as_aux_lemma =>
                  generalize wc = w3 at *
                  have HDd := Lib.hid (HD4.out.next (Below.refl _ _).drew)
                  refine wp_region_held_drew (S := fun W => W.rangeAt b10 0 a.cells ∧ W.cell? ⟨b10, 0, none⟩ = some (.int .i64 a.kd) ∧ W.cell? ⟨b10, 2, none⟩ = some (.string a.body)) (by kernel_rfl) (KEEP.out _ HDd.out.e1) (fun _ => ?_)
                  refine rg_gen (i := 0) (v := ?_) rfl (by kernel_rfl) (by kernel_rfl) (by kernel_rfl) (fun _ _ _ h => h) rfl (by rfl) ?_ (by assumption) ?_
                  rotate_left
                  · intro w hSw
                    try dsimp only at hSw
                    go_simp
                    try with_reducible rfl
                  try simp only [Act.put, List.setIfInBounds_toArray, List.set_cons_zero, List.set_cons_succ]
                  refine rg_gen (i := 1) (v := ?_) rfl (by kernel_rfl) (by kernel_rfl) (by kernel_rfl) (fun _ _ _ h => h) rfl (by rfl) ?_ (by assumption) ?_
                  rotate_left
                  · intro w hSw
                    try dsimp only at hSw
                    go_simp
                    try with_reducible rfl
                  try simp only [Act.put, List.setIfInBounds_toArray, List.set_cons_zero, List.set_cons_succ]
                  refine rg_gen (i := 2) (v := ?_) rfl (by kernel_rfl) (by kernel_rfl) (by kernel_rfl) (fun _ _ _ h => h) rfl (by rfl) ?_ (by assumption) ?_
                  rotate_left
                  · intro w hSw
                    try dsimp only at hSw
                    go_simp
                    try with_reducible rfl
                  try simp only [Act.put, List.setIfInBounds_toArray, List.set_cons_zero, List.set_cons_succ]
                  refine rg_gen (i := 3) (v := ?_) rfl (by kernel_rfl) (by kernel_rfl) (by kernel_rfl) (fun _ _ _ h => h) rfl (by rfl) ?_ (by assumption) ?_
                  rotate_left
                  · intro w hSw
                    try dsimp only at hSw
                    go_simp
                    try with_reducible rfl
                  try simp only [Act.put, List.setIfInBounds_toArray, List.set_cons_zero, List.set_cons_succ]
                  refine rg_gen (i := 4) (v := ?_) rfl (by kernel_rfl) (by kernel_rfl) (by kernel_rfl) (fun _ _ _ h => h) rfl (by rfl) ?_ (by assumption) ?_
                  rotate_left
                  · intro w hSw
                    try dsimp only at hSw
                    go_simp
                    try with_reducible rfl
                  try simp only [Act.put, List.setIfInBounds_toArray, List.set_cons_zero, List.set_cons_succ]
                  refine rg_gen (i := 5) (v := ?_) rfl (by kernel_rfl) (by kernel_rfl) (by kernel_rfl) (fun _ _ _ h => h) rfl (by rfl) ?_ (by assumption) ?_
                  rotate_left
                  · intro w hSw
                    try dsimp only at hSw
                    go_simp
                    try with_reducible rfl
                  try simp only [Act.put, List.setIfInBounds_toArray, List.set_cons_zero, List.set_cons_succ]
                  refine rg_row (i := 6) rfl (by kernel_rfl) (by kernel_rfl) (by kernel_rfl) (fun _ _ _ _ h => h) rfl (by rfl) 71 (.tmp 10) rfl b10 0 a.cells rfl (fun W h => h.1) hu rfl (act_info HAW.out) (by assumption) ?_
                  try simp only [Act.put, List.setIfInBounds_toArray, List.set_cons_zero, List.set_cons_succ]
                  refine wpAnyH_ready (rs := [7, 12]) (by kernel_rfl) (by simp) ?_
                  refine AllReadyH.cons rfl (fun K hK => ?_) (AllReadyH.cons rfl (fun K hK => ?_) AllReadyH.nil)
                  · go_simp
                    go_at_call 51
                    refine (ltime_any _ _ rs a.kd a.lt a.body a.ld a.r _ (HOX.out _ HDd.out.own) HWF.out HTM.out (Nat.le_trans HSM.out (by decide))).mono ?_
                    rintro e w5 ⟨rfl, hb⟩
                    have HD5 := Lib.hid (HDd.out.next hb)
                    clear hb
                    go_wp2_with fail
                    refine hK.out _ _ (KEEP.out _ HD5.out.e1) (fun _ => ?_)
                    clear hK K
                    try simp only [Act.put, List.setIfInBounds_toArray, List.set_cons_zero, List.set_cons_succ]
                    refine wpAnyH_ready (rs := [8, 12]) (by kernel_rfl) (by simp) ?_
                    refine AllReadyH.cons rfl (fun K hK => ?_) (AllReadyH.cons rfl (fun K hK => ?_) AllReadyH.nil)
                    · go_simp
                      go_at_call 49
                      refine (HMAKE.out _ _ (HOX.out _ HD5.out.own)).mono ?_
                      rintro e w6 ⟨rfl, hb⟩
                      have HD6 := Lib.hid (HD5.out.next hb)
                      clear hb
                      go_wp2_with fail
                      refine hK.out _ _ (KEEP.out _ HD6.out.e1) (fun _ => ?_)
                      clear hK K
                      try simp only [Act.put, List.setIfInBounds_toArray, List.set_cons_zero, List.set_cons_succ]
                      refine rg_gen (i := 9) (v := ?_) rfl (by kernel_rfl) (by kernel_rfl) (by kernel_rfl) (fun _ _ _ h => h) rfl (by rfl) ?_ (by assumption) ?_
                      rotate_left
                      · intro w hSw
                        try dsimp only at hSw
                        go_simp
                        try with_reducible rfl
                      try simp only [Act.put, List.setIfInBounds_toArray, List.set_cons_zero, List.set_cons_succ]
                      refine rg_gen (i := 10) (v := ?_) rfl (by kernel_rfl) (by kernel_rfl) (by kernel_rfl) (fun _ _ _ h => h) rfl (by rfl) ?_ (by assumption) ?_
                      rotate_left
                      · intro w hSw
                        try dsimp only at hSw
                        go_simp
                        try with_reducible rfl
                      try simp only [Act.put, List.setIfInBounds_toArray, List.set_cons_zero, List.set_cons_succ]
                      refine rg_gen (i := 11) (v := ?_) rfl (by kernel_rfl) (by kernel_rfl) (by kernel_rfl) (fun _ _ _ h => h) rfl (by rfl) ?_ (by assumption) ?_
                      rotate_left
                      · intro w hSw
                        try dsimp only at hSw
                        go_simp
                        try with_reducible rfl
                      try simp only [Act.put, List.setIfInBounds_toArray, List.set_cons_zero, List.set_cons_succ]
                      refine rg_one (i := 12) (by kernel_rfl) rfl (fun K hK => ?_)
                      refine rg_step (s := Instr.alloc 61 true (.tuple #[])) (by rfl) rfl rfl (rc_alloc w6) ?_
                      have HD7 := Lib.hid (HD6.out.fresh zlRc.toArray 61)
                      refine hK.out _ _ (KEEP.out _ HD7.out.e2) (fun _ => ?_)
                      clear hK K
                      try simp only [Act.put, List.setIfInBounds_toArray, List.set_cons_zero, List.set_cons_succ]
                      refine rg_one (i := 13) (by kernel_rfl) rfl (fun K hK => ?_)
                      refine rg_store (by rfl) rfl 61 (.tmp 17) (.tmp 111) rfl w6.heap.size mr.cells zlRc 61 rfl rfl HD7.out.e0 HRL.out (rc_info HRW.out) (rc_one _) (fun W8 hU => ?_)
                      have HD8 := Lib.hid (HD7.out.upd hU)
                      refine hK.out _ _ (KEEP.out _ HD8.out.e2) (fun _ => ?_)
                      clear hK K
                      try simp only [Act.put, List.setIfInBounds_toArray, List.set_cons_zero, List.set_cons_succ]
                      refine rg_gen (i := 14) (v := ?_) rfl (by kernel_rfl) (by kernel_rfl) (by kernel_rfl) (fun _ _ _ h => h) rfl (by rfl) ?_ (by assumption) ?_
                      rotate_left
                      · intro w hSw
                        try dsimp only at hSw
                        go_simp
                        try with_reducible rfl
                      try simp only [Act.put, List.setIfInBounds_toArray, List.set_cons_zero, List.set_cons_succ]
                      refine wpAnyH_done (by kernel_rfl) ?_ _
                      go_wp2_with fail
                      go_meet
                      case rel => exact ⟨w6.heap.size, rfl, rfl, HD8⟩
                    · refine rg_step (s := Instr.alloc 61 true (.tuple #[])) (by rfl) rfl rfl (rc_alloc w5) ?_
                      have HD6 := Lib.hid (HD5.out.fresh zlRc.toArray 61)
                      refine hK.out _ _ (KEEP.out _ HD6.out.e2) (fun _ => ?_)
                      clear hK K
                      try simp only [Act.put, List.setIfInBounds_toArray, List.set_cons_zero, List.set_cons_succ]
                      refine rg_one (i := 8) (by kernel_rfl) rfl (fun K hK => ?_)
                      go_simp
                      go_at_call 49
                      refine (HMAKE.out _ _ (HOX.out _ HD6.out.own)).mono ?_
                      rintro e w7 ⟨rfl, hb⟩
                      have HD7 := Lib.hid (HD6.out.next hb)
                      clear hb
                      go_wp2_with fail
                      refine hK.out _ _ (KEEP.out _ HD7.out.e2) (fun _ => ?_)
                      clear hK K
                      try simp only [Act.put, List.setIfInBounds_toArray, List.set_cons_zero, List.set_cons_succ]
                      refine rg_gen (i := 9) (v := ?_) rfl (by kernel_rfl) (by kernel_rfl) (by kernel_rfl) (fun _ _ _ h => h) rfl (by rfl) ?_ (by assumption) ?_
                      rotate_left
                      · intro w hSw
                        try dsimp only at hSw
                        go_simp
                        try with_reducible rfl
                      try simp only [Act.put, List.setIfInBounds_toArray, List.set_cons_zero, List.set_cons_succ]
                      refine rg_gen (i := 10) (v := ?_) rfl (by kernel_rfl) (by kernel_rfl) (by kernel_rfl) (fun _ _ _ h => h) rfl (by rfl) ?_ (by assumption) ?_
                      rotate_left
                      · intro w hSw
                        try dsimp only at hSw
                        go_simp
                        try with_reducible rfl
                      try simp only [Act.put, List.setIfInBounds_toArray, List.set_cons_zero, List.set_cons_succ]
                      refine rg_gen (i := 11) (v := ?_) rfl (by kernel_rfl) (by kernel_rfl) (by kernel_rfl) (fun _ _ _ h => h) rfl (by rfl) ?_ (by assumption) ?_
                      rotate_left
                      · intro w hSw
                        try dsimp only at hSw
                        go_simp
                        try with_reducible rfl
                      try simp only [Act.put, List.setIfInBounds_toArray, List.set_cons_zero, List.set_cons_succ]
                      refine rg_one (i := 13) (by kernel_rfl) rfl (fun K hK => ?_)
                      refine rg_store (by rfl) rfl 61 (.tmp 17) (.tmp 111) rfl w5.heap.size mr.cells zlRc 61 rfl rfl HD7.out.e0 HRL.out (rc_info HRW.out) (rc_one _) (fun W8 hU => ?_)
                      have HD8 := Lib.hid (HD7.out.upd hU)
                      refine hK.out _ _ (KEEP.out _ HD8.out.e2) (fun _ => ?_)
                      clear hK K
                      try simp only [Act.put, List.setIfInBounds_toArray, List.set_cons_zero, List.set_cons_succ]
                      refine rg_gen (i := 14) (v := ?_) rfl (by kernel_rfl) (by kernel_rfl) (by kernel_rfl) (fun _ _ _ h => h) rfl (by rfl) ?_ (by assumption) ?_
                      rotate_left
                      · intro w hSw
                        try dsimp only at hSw
                        go_simp
                        try with_reducible rfl
                      try simp only [Act.put, List.setIfInBounds_toArray, List.set_cons_zero, List.set_cons_succ]
                      refine wpAnyH_done (by kernel_rfl) ?_ _
                      go_wp2_with fail
                      go_meet
                      case rel => exact ⟨w5.heap.size, rfl, rfl, HD8⟩
                  · refine rg_step (s := Instr.alloc 61 true (.tuple #[])) (by rfl) rfl rfl (rc_alloc w3.drew) ?_
                    have HD5 := Lib.hid (HDd.out.fresh zlRc.toArray 61)
                    refine hK.out _ _ (KEEP.out _ HD5.out.e2) (fun _ => ?_)
                    clear hK K
                    try simp only [Act.put, List.setIfInBounds_toArray, List.set_cons_zero, List.set_cons_succ]
                    refine rg_one (i := 7) (by kernel_rfl) rfl (fun K hK => ?_)
                    go_simp
                    go_at_call 51
                    refine (ltime_any _ _ rs a.kd a.lt a.body a.ld a.r _ (HOX.out _ HD5.out.own) HWF.out HTM.out (Nat.le_trans HSM.out (by decide))).mono ?_
                    rintro e w6 ⟨rfl, hb⟩
                    have HD6 := Lib.hid (HD5.out.next hb)
                    clear hb
                    go_wp2_with fail
                    refine hK.out _ _ (KEEP.out _ HD6.out.e2) (fun _ => ?_)
                    clear hK K
                    try simp only [Act.put, List.setIfInBounds_toArray, List.set_cons_zero, List.set_cons_succ]
                    refine rg_one (i := 8) (by kernel_rfl) rfl (fun K hK => ?_)
                    go_simp
                    go_at_call 49
                    refine (HMAKE.out _ _ (HOX.out _ HD6.out.own)).mono ?_
                    rintro e w7 ⟨rfl, hb⟩
                    have HD7 := Lib.hid (HD6.out.next hb)
                    clear hb
                    go_wp2_with fail
                    refine hK.out _ _ (KEEP.out _ HD7.out.e2) (fun _ => ?_)
                    clear hK K
                    try simp only [Act.put, List.setIfInBounds_toArray, List.set_cons_zero, List.set_cons_succ]
                    refine rg_gen (i := 9) (v := ?_) rfl (by kernel_rfl) (by kernel_rfl) (by kernel_rfl) (fun _ _ _ h => h) rfl (by rfl) ?_ (by assumption) ?_
                    rotate_left
                    · intro w hSw
                      try dsimp only at hSw
                      go_simp
                      try with_reducible rfl
                    try simp only [Act.put, List.setIfInBounds_toArray, List.set_cons_zero, List.set_cons_succ]
                    refine rg_gen (i := 10) (v := ?_) rfl (by kernel_rfl) (by kernel_rfl) (by kernel_rfl) (fun _ _ _ h => h) rfl (by rfl) ?_ (by assumption) ?_
                    rotate_left
                    · intro w hSw
                      try dsimp only at hSw
                      go_simp
                      try with_reducible rfl
                    try simp only [Act.put, List.setIfInBounds_toArray, List.set_cons_zero, List.set_cons_succ]
                    refine rg_gen (i := 11) (v := ?_) rfl (by kernel_rfl) (by kernel_rfl) (by kernel_rfl) (fun _ _ _ h => h) rfl (by rfl) ?_ (by assumption) ?_
                    rotate_left
                    · intro w hSw
                      try dsimp only at hSw
                      go_simp
                      try with_reducible rfl
                    try simp only [Act.put, List.setIfInBounds_toArray, List.set_cons_zero, List.set_cons_succ]
                    refine rg_one (i := 13) (by kernel_rfl) rfl (fun K hK => ?_)
                    refine rg_store (by rfl) rfl 61 (.tmp 17) (.tmp 111) rfl w3.drew.heap.size mr.cells zlRc 61 rfl rfl HD7.out.e0 HRL.out (rc_info HRW.out) (rc_one _) (fun W8 hU => ?_)
                    have HD8 := Lib.hid (HD7.out.upd hU)
                    refine hK.out _ _ (KEEP.out _ HD8.out.e2) (fun _ => ?_)
                    clear hK K
                    try simp only [Act.put, List.setIfInBounds_toArray, List.set_cons_zero, List.set_cons_succ]
                    refine rg_gen (i := 14) (v := ?_) rfl (by kernel_rfl) (by kernel_rfl) (by kernel_rfl) (fun _ _ _ h => h) rfl (by rfl) ?_ (by assumption) ?_
                    rotate_left
                    · intro w hSw
                      try dsimp only at hSw
                      go_simp
                      try with_reducible rfl
                    try simp only [Act.put, List.setIfInBounds_toArray, List.set_cons_zero, List.set_cons_succ]
                    refine wpAnyH_done (by kernel_rfl) ?_ _
                    go_wp2_with fail
                    go_meet
                    case rel => exact ⟨w3.drew.heap.size, rfl, rfl, HD8⟩
              case rest =>
                obtain ⟨b17, rfl, rfl, HD5⟩ := hcut
                have hT15 := HD5.out.e1
                have hT17 := HD5.out.e0
                clear HD4 HADD HMAKE HOX
                as_aux_lemma =>
                  by_cases he : er = 0
                  · subst he
                    have HNE := Lib.hid (HNX.out.2.1 rfl)
                    have HD6 := Lib.hid (HD5.out.next (bw_alloc (Below.refl _ _) (.cells mr.cells.toArray 61)))
                    have HL68 : Hid (mr.cells.length = 1 * 68) := show _ = _ from RC.cells_length HRW.out.prev HRW.out.hash
                    go_wp2_with (first
                      | (with_reducible refine wpList_load_rows_g (by kernel_rfl) 61 (.tmp 15) rfl b15 0 mr.cells mr.cells 61 (0, 0) _ rfl hT15 id_at Tryd.underlying61 rfl (rc_info HRW.out) ?_)
                      | (with_reducible refine wpList_load_rows_g (by kernel_rfl) 61 (.tmp 17) rfl b17 0 mr.cells mr.cells 61 (0, 0) _ rfl hT17 id_at Tryd.underlying61 rfl (rc_info HRW.out) ?_)
                      | ((with_reducible refine wpList_bin_g (by kernel_rfl) .neq 61 61 (.tmp 113) (.tmp 114) rfl (.agg mr.cells.toArray) (.agg mr.cells.toArray) (.bool !(decide (mr = mr))) rfl rfl (rc_eqG _ _ _ _ _ _) (rc_neq HRW.out HRW.out _) ?_); rw [decide_eq_true (rfl : mr = mr)])
                      | (refine wpList_buildSlice rfl 57 61 1 #[(0, .tmp 124)] rfl mr.cells.toArray _ (.agg zlRc.toArray) Tryd.underlying57 rcinfo rfl (by decide) (by decide) (by simp only [List.map_toArray, List.map_cons, List.map_nil]; exact rc_fill HRW.out) ?_)
                      | ((at_builtin; refine wpList_append_own2 rfl (.tmp 123) (.tmp 125) 57 rfl w.heap.size 61 _ (.agg zlRc.toArray) 68 104 Tryd.underlying57 rcinfo rfl rfl rfl rfl (by decide) _ rs.length (rcells rs) rfl HD6.out.own ⟨wc.heap.size, 0, none⟩ 1 1 mr.cells rfl HL68.out news_at (rc_one _) (by have := HSM.out; unfold maxLen; omega) (by have := HSM.out; omega) HD6.out.b.size ?_); intro v7 w7 hO7 hg7 hn7))
                    have hD7 := HD6.out.app (r := mr) (by simp) hO7 hg7 hn7
                    obtain ⟨q7, c7, rfl, -⟩ := own_rcs2 hD7.own
                    have HD7 : Hid (DoAt w w7 sv4 (.slice q7 (rs ++ [mr]).length c7) (rs ++ [mr]) (rs ++ [mr]) []) := show DoAt _ _ _ _ _ _ _ from by have h7 := hD7.none; rw [HNE.out] at h7; exact h7
                    have HC7 : Hid (Chain (rs ++ [mr])) := show Chain _ from by rw [← HNE.out]; exact HNX.out.1
                    have hl7 : (rs ++ [mr]).length ≤ j + 1 := by have := HN.out; simp only [List.length_append, List.length_cons, List.length_nil]; omega
                    clear hO7 hg7 hn7 hD7
                    go_roundw
                    case rel => exact ⟨j + 1, q7, _, c7, sv4, rs ++ [mr], by omega, hl7, rfl, by go_num, rfl, HC7, HD7⟩
                    case measure => simp [intOf]; omega
                  · have hb0 : (er == 0) = false := by simpa using he
                    have hbb : (er != er) = false := by simp
                    have HNE := Lib.hid (HNX.out.2.2 he)
                    have HD6 : Hid (DoAt w wc sv4 (.slice qx n cx) rs rs []) := show DoAt _ _ _ _ _ _ _ from by have h6 := HD5.out.none; rw [HNE.out] at h6; exact h6
                    clear he
                    go_wp2_with (first
                      | (with_reducible refine wpList_load_rows_g (by kernel_rfl) 61 (.tmp 15) rfl b15 0 mr.cells mr.cells 61 (0, 0) _ rfl hT15 id_at Tryd.underlying61 rfl (rc_info HRW.out) ?_)
                      | (with_reducible refine wpList_load_rows_g (by kernel_rfl) 61 (.tmp 17) rfl b17 0 mr.cells mr.cells 61 (0, 0) _ rfl hT17 id_at Tryd.underlying61 rfl (rc_info HRW.out) ?_)
                      | ((with_reducible refine wpList_bin_g (by kernel_rfl) .neq 61 61 (.tmp 113) (.tmp 114) rfl (.agg mr.cells.toArray) (.agg mr.cells.toArray) (.bool !(decide (mr = mr))) rfl rfl (rc_eqG _ _ _ _ _ _) (rc_neq HRW.out HRW.out _) ?_); rw [decide_eq_true (rfl : mr = mr)]))
                    go_roundw
                    case rel => exact ⟨j + 1, qx, n, cx, sv4, rs, by omega, by omega, rfl, by go_num, HN, HC, HD6⟩
                    case measure => simp [intOf]; omega
            -- ENDADD
          · rw [hld] at c3
            clear hld
            -- LOAD
            as_aux_lemma =>
              obtain ⟨mr, hmr⟩ : ∃ x, x = mkRc rs (cnt rs) a.r.kind a.r.body a.r.time := ⟨_, rfl⟩
              obtain ⟨er, her⟩ : ∃ x, x = mkErr rs (cnt rs) a.r.kind a.r.body a.r.time := ⟨_, rfl⟩
              have HRA : Hid a.r.wf := show _ from HAW.out.r
              have HST : Hid (OkStep rs a.r ↔ er = 0 ∧ mr = a.r) := show _ ↔ _ from by rw [her, hmr]; exact Iff.rfl
              have HRW : Hid mr.wf := show _ from by rw [hmr]; exact mkRc_wf HWF.out (Nat.le_trans HSM.out (by decide)) HRA.out.kind HRA.out.time HRA.out.body
              have HRL : Hid (mr.cells.length = zlRc.length) := show _ = _ from rc_len HRW.out
              have HMAKE : Hid (∀ (W : World) (xv : Value), W.ownsRow w.heap.size 61 68 xv rs.length (rcells rs) → Calls Tryd.prog 49 #[xv, .int .i64 a.r.kind, .string a.r.body, .int .i64 a.r.time] W fun e w' =>
                  e = .returned (.tuple #[.agg mr.cells.toArray, .int .i64 er]) ∧ Below W.heap.size W w') := show ∀ W xv, _ from fun W xv hO => by
                rw [hmr, her]
                exact rmake_any w.heap.size xv rs a.r.kind _ a.r.body W hO HWF.out (Nat.le_trans HSM.out (by decide)) HRA.out.kind HRA.out.time HRA.out.body
              have c5 : w3.cell? ⟨b10, 5, none⟩ = some (.int .i64 a.r.kind) := by rw [cell_of_row w3 b10 5 _ _ _ HD3.out.e0]; rfl
              have c6 : w3.cell? ⟨b10, 6, none⟩ = some (.int .i64 a.r.time) := by rw [cell_of_row w3 b10 6 _ _ _ HD3.out.e0]; rfl
              have c7 : w3.cell? ⟨b10, 7, none⟩ = some (.string a.r.body) := by rw [cell_of_row w3 b10 7 _ _ _ HD3.out.e0]; rfl
              have HAT : Hid (∀ j v, a.r.cells[j]? = some v → a.cells[4 + j]? = some v) := show ∀ j v, _ from actQ_at
              clear hmr her
              go_wp2_with fail
              refine (HMAKE.out _ _ HD3.out.own).mono ?_
              rintro e w5 ⟨rfl, hb5⟩
              have HD5 := Lib.hid ((HD3.out.next hb5).fresh Tryd.zeroCells61 61)
              have hz5 : (w5.alloc (.cells Tryd.zeroCells61 61)).heap[w5.heap.size]? = some (.cells zlRc.toArray 61 (0, 0)) := heap_alloc_new w5 _
              clear hb5 c3 c5 c6 c7 HMAKE
              by_cases hs : OkStep rs a.r
              · obtain ⟨rfl, rfl⟩ := HST.out.1 hs
                have HLD : Hid (ldErr rs a.r = 0 ∧ loadRs rs a.r = rs ++ [a.r] ∧ Chain (rs ++ [a.r])) := show _ ∧ _ from ⟨if_pos hs, if_pos hs, HC.out.snoc hs⟩
                have HL68 : Hid (a.r.cells.length = 1 * 68) := show _ = _ from RC.cells_length HRW.out.prev HRW.out.hash
                clear hs
                go_wp2_with (first
                  | ((with_reducible refine wpList_store_whole rfl 61 (.tmp 11) (.tmp 58) rfl w5.heap.size a.r.cells zlRc 61 rfl rfl hz5 HRL.out (rc_info HRW.out) (rc_one _) ?_); intro w6 hU6; have HD6 := Lib.hid (HD5.out.upd hU6.out); have hT11 := HD6.out.e0; have hT10 := HD6.out.e1)
                  | (with_reducible refine wpList_load_rows_g (by kernel_rfl) 61 (.tmp 11) rfl w5.heap.size 0 a.r.cells a.r.cells 61 (0, 0) _ rfl hT11 id_at Tryd.underlying61 rfl (rc_info HRW.out) ?_)
                  | (with_reducible refine wpList_load_rows_g (by kernel_rfl) 61 (.tmp 64) rfl b10 4 a.r.cells a.cells 71 (0, 0) _ rfl hT10 HAT.out Tryd.underlying61 rfl (rc_info HRA.out) ?_)
                  | ((with_reducible refine wpList_bin_g (by kernel_rfl) .eql 61 61 (.tmp 63) (.tmp 65) rfl (.agg a.r.cells.toArray) (.agg a.r.cells.toArray) (.bool (decide (a.r = a.r))) rfl rfl (rc_eqG _ _ _ _ _ _) (rc_eql HRA.out HRA.out _) ?_); rw [decide_eq_true (rfl : a.r = a.r)])
                  | (with_reducible refine wpList_load_rows_g (by kernel_rfl) 61 (.tmp 69) rfl b10 4 a.r.cells a.cells 71 (0, 0) _ rfl hT10 HAT.out Tryd.underlying61 rfl (rc_info HRA.out) ?_))
                refine (load_any (w.heap.size + 1) w.heap.size sv rs a.r _ HD6.out.lg HRA.out (HR.out.below HD6.out.b HR.out.1) (Nat.lt_of_le_of_lt HSM.out (by decide)) HD6.out.lg.lts.1).mono ?_
                rintro e w7 ⟨rfl, ⟨sv7, hL7, hn7⟩, hT7⟩
                rw [HLD.out.2.1] at hL7
                rw [HLD.out.1]
                have HD7 := Lib.hid (HD6.out.turn hL7 hn7 hT7)
                have hT7 := HD7.out.e0
                have HD8 := Lib.hid (HD7.out.next (bw_alloc (Below.refl _ _) (.cells a.r.cells.toArray 61)))
                clear hL7 hn7 hT7 hU6 hT10 hT11 hz5 HD5
                have hT7 := HD7.out.e0
                go_wp2_with (first
                  | (with_reducible refine wpList_load_rows_g (by kernel_rfl) 61 (.tmp 11) rfl w5.heap.size 0 a.r.cells a.r.cells 61 (0, 0) _ rfl hT7 id_at Tryd.underlying61 rfl (rc_info HRW.out) ?_)
                  | (refine wpList_buildSlice rfl 57 61 1 #[(0, .tmp 86)] rfl a.r.cells.toArray _ (.agg zlRc.toArray) Tryd.underlying57 rcinfo rfl (by decide) (by decide) (by simp only [List.map_toArray, List.map_cons, List.map_nil]; exact rc_fill HRW.out) ?_)
                  | ((at_builtin; refine wpList_append_own2 rfl (.tmp 85) (.tmp 87) 57 rfl w.heap.size 61 _ (.agg zlRc.toArray) 68 104 Tryd.underlying57 rcinfo rfl rfl rfl rfl (by decide) _ rs.length (rcells rs) rfl HD8.out.own ⟨w7.heap.size, 0, none⟩ 1 1 a.r.cells rfl HL68.out news_at (rc_one _) (by have := HSM.out; unfold maxLen; omega) (by have := HSM.out; omega) HD8.out.b.size ?_); intro v9 w9 hO9 hg9 hn9))
                have hD9 := HD8.out.app (r := a.r) (by simp) hO9 hg9 hn9
                obtain ⟨q9, c9, rfl, -⟩ := own_rcs2 hD9.own
                have HD9 : Hid (DoAt w w9 sv7 (.slice q9 (rs ++ [a.r]).length c9) (rs ++ [a.r]) (rs ++ [a.r]) []) := show DoAt _ _ _ _ _ _ _ from hD9.none
                have HC9 : Hid (Chain (rs ++ [a.r])) := show Chain _ from HLD.out.2.2
                have hl9 : (rs ++ [a.r]).length ≤ j + 1 := by have := HN.out; simp only [List.length_append, List.length_cons, List.length_nil]; omega
                clear hO9 hg9 hn9 hD9
                go_roundw
                case rel => exact ⟨j + 1, q9, _, c9, sv7, rs ++ [a.r], by omega, hl9, rfl, by go_num, rfl, HC9, HD9⟩
                case measure => simp [intOf]; omega
              · have HLD : Hid (ldErr rs a.r = 7 ∧ loadRs rs a.r = rs) := show _ ∧ _ from ⟨if_neg hs, if_neg hs⟩
                by_cases he : er = 0
                · subst he
                  have HNE : Hid (decide (mr = a.r) = false) := show _ = _ from decide_eq_false (fun h => hs (HST.out.2 ⟨rfl, h⟩))
                  clear hs
                  go_wp2_with (first
                    | ((with_reducible refine wpList_store_whole rfl 61 (.tmp 11) (.tmp 58) rfl w5.heap.size mr.cells zlRc 61 rfl rfl hz5 HRL.out (rc_info HRW.out) (rc_one _) ?_); intro w6 hU6; have HD6 := Lib.hid (HD5.out.upd hU6.out); have hT11 := HD6.out.e0; have hT10 := HD6.out.e1)
                    | (with_reducible refine wpList_load_rows_g (by kernel_rfl) 61 (.tmp 11) rfl w5.heap.size 0 mr.cells mr.cells 61 (0, 0) _ rfl hT11 id_at Tryd.underlying61 rfl (rc_info HRW.out) ?_)
                    | (with_reducible refine wpList_load_rows_g (by kernel_rfl) 61 (.tmp 64) rfl b10 4 a.r.cells a.cells 71 (0, 0) _ rfl hT10 HAT.out Tryd.underlying61 rfl (rc_info HRA.out) ?_)
                    | ((with_reducible refine wpList_bin_g (by kernel_rfl) .eql 61 61 (.tmp 63) (.tmp 65) rfl (.agg mr.cells.toArray) (.agg a.r.cells.toArray) (.bool (decide (mr = a.r))) rfl rfl (rc_eqG _ _ _ _ _ _) (rc_eql HRW.out HRA.out _) ?_); rw [HNE.out])
                    | (with_reducible refine wpList_load_rows_g (by kernel_rfl) 61 (.tmp 69) rfl b10 4 a.r.cells a.cells 71 (0, 0) _ rfl hT10 HAT.out Tryd.underlying61 rfl (rc_info HRA.out) ?_))
                  refine (load_any (w.heap.size + 1) w.heap.size sv rs a.r _ HD6.out.lg HRA.out (HR.out.below HD6.out.b HR.out.1) (Nat.lt_of_le_of_lt HSM.out (by decide)) HD6.out.lg.lts.1).mono ?_
                  rintro e w7 ⟨rfl, ⟨sv7, hL7, hn7⟩, hT7⟩
                  rw [HLD.out.2] at hL7
                  rw [HLD.out.1]
                  have HD7 := Lib.hid (HD6.out.turn hL7 hn7 hT7).none
                  clear hL7 hn7 hT7 hU6 hT10 hT11 hz5 HD5
                  go_wp2_with fail
                  go_roundw
                  case rel => exact ⟨j + 1, qx, n, cx, sv7, rs, by omega, by omega, rfl, by go_num, HN, HC, HD7⟩
                  case measure => simp [intOf]; omega
                · have hb0 : (er == 0) = false := by simpa using he
                  clear hs he
                  go_wp2_with (first
                    | ((with_reducible refine wpList_store_whole rfl 61 (.tmp 11) (.tmp 58) rfl w5.heap.size mr.cells zlRc 61 rfl rfl hz5 HRL.out (rc_info HRW.out) (rc_one _) ?_); intro w6 hU6; have HD6 := Lib.hid (HD5.out.upd hU6.out); have hT11 := HD6.out.e0; have hT10 := HD6.out.e1)
                    | (with_reducible refine wpList_load_rows_g (by kernel_rfl) 61 (.tmp 69) rfl b10 4 a.r.cells a.cells 71 (0, 0) _ rfl hT10 HAT.out Tryd.underlying61 rfl (rc_info HRA.out) ?_))
                  refine (load_any (w.heap.size + 1) w.heap.size sv rs a.r _ HD6.out.lg HRA.out (HR.out.below HD6.out.b HR.out.1) (Nat.lt_of_le_of_lt HSM.out (by decide)) HD6.out.lg.lts.1).mono ?_
                  rintro e w7 ⟨rfl, ⟨sv7, hL7, hn7⟩, hT7⟩
                  rw [HLD.out.2] at hL7
                  rw [HLD.out.1]
                  have HD7 := Lib.hid (HD6.out.turn hL7 hn7 hT7).none
                  clear hL7 hn7 hT7 hU6 hT10 hT11 hz5 HD5
                  go_wp2_with fail
                  go_roundw
                  case rel => exact ⟨j + 1, qx, n, cx, sv7, rs, by omega, by omega, rfl, by go_num, HN, HC, HD7⟩
                  case measure => simp [intOf]; omega
              -- ENDLOAD
          -- ENDBODY
        · have hd1 : decide ((j : Int) < 40) = false := decide_eq_false (by omega)
          go_wp2_with fail
          go_meet
          case rel => exact ⟨qx, n, cx, sv, rs, rfl, by omega, HN, HC, HD⟩
      · have hd0 : decide ((j : Int) < m) = false := decide_eq_false (by omega)
        go_wp2_with fail
        go_meet
        case rel => exact ⟨qx, n, cx, sv, rs, rfl, by omega, HN, HC, HD⟩
  case rest =>
    obtain ⟨qx, n, cx, sv, rs, rfl, hn40, HN, HC, HD⟩ := hcut
    clear HD2
    obtain ⟨fi, hfi⟩ : ∃ x, x = fromI rs i := ⟨_, rfl⟩
    have HFI := Lib.hid hfi
    have HWF : Hid (∀ r ∈ rs, r.wf) := show ∀ r ∈ _, _ from HD.out.lg.wf
    have HFW : Hid (∀ r ∈ fi, r.wf) := show ∀ r ∈ _, _ from fun r hr => HWF.out r (by
      rw [hfi, fromI] at hr
      split at hr
      · cases hr
      · exact List.mem_of_mem_drop hr)
    have HFL : Hid (fi.length ≤ 40) := show _ ≤ _ by
      rw [hfi, fromI]
      split
      · exact Nat.zero_le _
      · rw [List.length_drop]; have := HN.out; omega
    have HOR : Hid (∀ W : World, W.ownsRow w.heap.size 61 68 (.slice qx n cx) rs.length (rcells rs) → rs = [] ∨ ∃ g, qx = some ⟨g, 0, none⟩ ∧ RcsAt W g 0 rs ∧ n ≤ cx) := show ∀ W : World, _ from fun W h => by
      obtain ⟨q9, c9, e9, hq9⟩ := own_rcs2 h
      injection e9 with e91 e92 e93
      subst e91 e93
      rcases hq9 with h9 | ⟨g, h1, h2, -, -, h3⟩
      · exact .inl h9
      · exact .inr ⟨g, h1, h2, by rw [e92]; exact h3⟩
    clear hfi
    -- WANT
    go_upto_if 131 with fail
    go_cut [19] (fun v19 wx => ∃ (q19 : Option Addr) (c19 : Nat), v19 = .slice q19 fi.length c19 ∧ Hid (fi = [] ∨ ∃ g off, q19 = some ⟨g, off, none⟩ ∧ RcsAt wc g off fi) ∧ wx = wc)
    case first =>
      as_aux_lemma =>
        by_cases hbig : (n : Int) < i
        · rw [decide_eq_true hbig]
          have HE : Hid (fi = []) := show _ = _ from by rw [HFI.out, fromI, if_pos (by rw [← HN.out]; exact hbig)]
          clear hbig
          go_wp2_with fail
          go_meet
          case rel => exact ⟨none, 0, by rw [HE.out]; rfl, .inl HE.out, rfl⟩
        · rw [decide_eq_false hbig]
          by_cases hpos : 0 < i
          · have hd1 : decide (0 < i) = true := decide_eq_true hpos
            obtain ⟨k, hk⟩ : ∃ k : Nat, i = k := ⟨i.toNat, by omega⟩
            subst hk
            have HE : Hid (fi = rs.drop k) := show _ = _ from by rw [HFI.out, fromI, if_neg (by rw [← HN.out]; exact hbig)]; rfl
            have HFIL : Hid (fi.length = n - k) := show _ = _ from by rw [HE.out, List.length_drop, ← HN.out]
            rcases HOR.out _ HD.out.own with h | ⟨g, rfl, hrow, hcx⟩
            · exfalso
              have := HN.out
              rw [h] at this
              simp at this
              omega
            · have HRD := Lib.hid (hrow.drop HWF.out k)
              have f0 : k ≤ n := by omega
              have f1 : (k : Int) ≤ n := by omega
              have f3 : 0 < k := by omega
              have f4 : decide (0 < k) = true := decide_eq_true f3
              by_cases hcm : cx = k
              · obtain rfl : n = k := by omega
                subst hcm
                clear hbig hpos hrow
                go_wp2_with fail
                go_meet
                case rel => exact ⟨_, _, by rw [HFIL.out, Nat.sub_self], .inl (List.length_eq_zero_iff.1 (by rw [HFIL.out, Nat.sub_self])), rfl⟩
              · have f2 : cx - k ≠ 0 := by omega
                clear hbig hpos hrow hcm
                go_wp2_with fail
                go_meet
                case rel => exact ⟨some ⟨g, k * 68, none⟩, cx - k, by rw [HFIL.out], .inr ⟨g, k * 68, rfl, by rw [HE.out]; exact HRD.out⟩, rfl⟩
          · have hd1 : decide (0 < i) = false := decide_eq_false hpos
            have HE : Hid (fi = rs) := show _ = _ from by rw [HFI.out, fromI, if_neg (by rw [← HN.out]; exact hbig), show i.toNat = 0 by omega, List.drop_zero]
            clear hbig hpos
            go_wp2_with fail
            go_meet
            case rel => exact ⟨qx, cx, by rw [HE.out, ← HN.out], by rw [HE.out]; exact (HOR.out _ HD.out.own).imp id (fun ⟨g, h1, h2, _⟩ => ⟨g, 0, h1, h2⟩), rfl⟩
    case rest =>
      obtain ⟨q19, c19, rfl, HQ19, rfl⟩ := hcut
      generalize wc = Wb at *
      obtain ⟨ar, har⟩ : ∃ x, x = atRc rs i := ⟨_, rfl⟩
      obtain ⟨ae, hae⟩ : ∃ x, x = atErr rs i := ⟨_, rfl⟩
      have HAT : Hid (∀ W, LgAt W (w.heap.size + 1) w.heap.size sv rs (cnt rs) → Calls Tryd.prog 52 #[.pointer (some ⟨w.heap.size, 0, none⟩), .int .i64 i] W fun e w' => e = .returned (.tuple #[.agg ar.cells.toArray, .int .i64 ae]) ∧ Below W.heap.size W w') := show ∀ W, _ from fun W h => by
        rw [har, hae]
        exact at_any _ _ sv rs _ i W h
      have HARW : Hid ar.wf := show _ from by
        rw [har, atRc]
        split
        · cases hg : rs[i.toNat]? with
          | none => exact RC.zero_wf
          | some r => exact HWF.out r (List.mem_of_getElem? hg)
        · exact RC.zero_wf
      have HBAD : Hid ((i < 0 ∨ (n : Int) ≤ i) → ar = RC.zero ∧ ae = 4) := show _ → _ from fun h => by
        refine ⟨?_, ?_⟩
        · rw [har, atRc]
          split
          · rw [List.getElem?_eq_none (by rw [← HN.out]; omega)]; rfl
          · rfl
        · rw [hae, atErr, if_neg (by rw [← HN.out]; omega)]
      have HGOOD : Hid (∀ k : Nat, i = k → k < n → ae = 0 ∧ rs[k]? = some ar) := show ∀ k : Nat, _ from fun k h1 h2 => by
        have h3 : k < rs.length := by rw [← HN.out]; exact h2
        rw [har, hae, atRc, atErr, h1, if_pos (by omega), if_pos (by omega), Int.toNat_natCast, List.getElem?_eq_getElem h3]
        exact ⟨rfl, rfl⟩
      have HARL : Hid (ar.cells.length = zlRc.length) := show _ = _ from rc_len HARW.out
      clear har hae
      -- AT
      go_wp2_with fail
      refine (HAT.out _ HD.out.lg).mono ?_
      rintro e w4 ⟨rfl, hb4⟩
      have HD4 := Lib.hid ((HD.out.next hb4).fresh Tryd.zeroCells61 61)
      have hz4 : (w4.alloc (.cells Tryd.zeroCells61 61)).heap[w4.heap.size]? = some (.cells zlRc.toArray 61 (0, 0)) := heap_alloc_new w4 _
      have HB4 := Lib.hid (bw_alloc hb4 (.cells Tryd.zeroCells61 61))
      have hs4 := hb4.size
      clear hb4 HAT
      go_upto_region 29 with ((with_reducible refine wpList_store_whole rfl 61 (.tmp 20) (.tmp 141) rfl w4.heap.size ar.cells zlRc 61 rfl rfl hz4 HARL.out (rc_info HARW.out) (rc_one _) ?_); intro w5 hU5)
      have HD5 := Lib.hid (HD4.out.upd hU5.out)
      have HB5 := Lib.hid (hU5.out.below HB4.out hs4)
      clear hU5 hz4 HD4 HB4 hs4
      generalize w4.heap.size = b20 at *
      obtain ⟨bad, hbad⟩ : ∃ x, x = decide (i < 0 ∨ (n : Int) ≤ i) := ⟨_, rfl⟩
      have HBB := Lib.hid hbad
      clear hbad
      go_cut [150] (fun t wx => t = .bool bad ∧ wx = w5)
      case first =>
        as_aux_lemma =>
          by_cases h1 : i < 0
          · have hd1 : decide (i < 0) = true := decide_eq_true h1
            have HBT : Hid (bad = true) := show _ = _ from by rw [HBB.out]; exact decide_eq_true (.inl h1)
            clear h1
            go_wp2_with fail
            go_meet
            case rel => exact ⟨by rw [HBT.out], rfl⟩
          · have hd1 : decide (i < 0) = false := decide_eq_false h1
            by_cases h2 : (n : Int) ≤ i
            · have hd2 : decide ((n : Int) ≤ i) = true := decide_eq_true h2
              have HBT : Hid (bad = true) := show _ = _ from by rw [HBB.out]; exact decide_eq_true (.inr h2)
              clear h1 h2
              go_wp2_with fail
              go_meet
              case rel => exact ⟨by rw [HBT.out], rfl⟩
            · have hd2 : decide ((n : Int) ≤ i) = false := decide_eq_false h2
              have HBT : Hid (bad = false) := show _ = _ from by rw [HBB.out]; exact decide_eq_false (by omega)
              clear h1 h2
              go_wp2_with fail
              go_meet
              case rel => exact ⟨by rw [HBT.out], rfl⟩
      case rest =>
        obtain ⟨rfl, rfl⟩ := hcut
        generalize wc = w5 at *
        go_upto_if 150 with fail
        go_cut [20] (fun p wx => p = .pointer (some ⟨b20, 0, none⟩) ∧ Hid (DoAt w wx sv (.slice qx n cx) rs rs []) ∧ Hid (Below w5.heap.size w5 wx))
        case first =>
          as_aux_lemma =>
            -- BAD
            have hT5 := HD5.out.e0
            cases bad
            · have hin : ¬ (i < 0 ∨ (n : Int) ≤ i) := of_decide_eq_false HBB.out.symm
              obtain ⟨k, hk⟩ : ∃ k : Nat, i = k := ⟨i.toNat, by omega⟩
              subst hk
              have hkn : k < n := by omega
              obtain ⟨rfl, hget⟩ := HGOOD.out k rfl hkn
              have hkl : k < rs.length := by rw [← HN.out]; exact hkn
              rcases HOR.out _ HD5.out.own with h | ⟨g, rfl, hrow, hcx⟩
              · exfalso
                rw [h] at hkl
                simp at hkl
              · have HROW : Hid (∀ W : World, W.ownsRow w.heap.size 61 68 (.slice (some ⟨g, 0, none⟩) n cx) rs.length (rcells rs) → W.rangeAt g (k * 68) ar.cells) := show ∀ W : World, _ from fun W h => by
                  rcases HOR.out _ h with h2 | ⟨g2, e2, hr2, -⟩
                  · exfalso
                    rw [h2] at hkl
                    simp at hkl
                  · injection e2 with e3
                    injection e3 with e4
                    subst e4
                    obtain ⟨cur, fr, hg, hat⟩ := hr2.one HWF.out k hkl
                    rw [List.getElem?_eq_getElem hkl] at hget
                    rw [Option.some.inj hget] at hat
                    exact range_row hg (fun x v hv => by have := hat x v hv; rw [Nat.zero_add] at this; exact this)
                have f0 : (0 : Int) ≤ k := by omega
                have f1 : (k : Int) < n := by omega
                clear hin hget hkl hrow hT5 hkn
                go_wp2_with fail
                refine wp_region_classW (fun W => DoAt w W sv (.slice (some ⟨g, 0, none⟩) n cx) rs rs [(b20, .cells ar.cells.toArray 61 (0, 0))] ∧ Below w5.heap.size w5 W) (by kernel_rfl) (by kernel_rfl) ⟨HD5.out.next (Below.refl _ _).drew, (Below.refl _ _).drew⟩ ?_
                refine WQ.gen (v := ?_) (by kernel_rfl) ?_ ?_
                rotate_left
                · intro W hC
                  go_simp
                  try with_reducible rfl
                refine WQ.eq (a' := ?_) ?_ ?_
                rotate_left
                · try simp only [Act.put, List.setIfInBounds_toArray, List.set_cons_zero, List.set_cons_succ]
                  exact rfl
                refine WQ.gen (v := ?_) (by kernel_rfl) ?_ ?_
                rotate_left
                · intro W hC
                  go_simp
                  try with_reducible rfl
                refine WQ.eq (a' := ?_) ?_ ?_
                rotate_left
                · try simp only [Act.put, List.setIfInBounds_toArray, List.set_cons_zero, List.set_cons_succ]
                  exact rfl
                refine WQ.gen (v := ?_) (by kernel_rfl) ?_ ?_
                rotate_left
                · intro W hC
                  go_simp
                  try with_reducible rfl
                refine WQ.eq (a' := ?_) ?_ ?_
                rotate_left
                · try simp only [Act.put, List.setIfInBounds_toArray, List.set_cons_zero, List.set_cons_succ]
                  exact rfl
                refine WQ.load (by kernel_rfl) 61 (.tmp 20) rfl b20 0 ar.cells _ rfl (fun W hC => range_row hC.1.e0 id_at) Tryd.underlying61 rfl (rc_info HARW.out) ?_
                refine WQ.eq (a' := ?_) ?_ ?_
                rotate_left
                · try simp only [Act.put, List.setIfInBounds_toArray, List.set_cons_zero, List.set_cons_succ]
                  exact rfl
                refine WQ.gen (v := ?_) (by kernel_rfl) ?_ ?_
                rotate_left
                · intro W hC
                  go_simp
                  try with_reducible rfl
                refine WQ.eq (a' := ?_) ?_ ?_
                rotate_left
                · try simp only [Act.put, List.setIfInBounds_toArray, List.set_cons_zero, List.set_cons_succ]
                  exact rfl
                refine WQ.gen (v := ?_) (by kernel_rfl) ?_ ?_
                rotate_left
                · intro W hC
                  go_simp
                  try with_reducible rfl
                refine WQ.eq (a' := ?_) ?_ ?_
                rotate_left
                · try simp only [Act.put, List.setIfInBounds_toArray, List.set_cons_zero, List.set_cons_succ]
                  exact rfl
                refine WQ.gen (v := ?_) (by kernel_rfl) ?_ ?_
                rotate_left
                · intro W hC
                  go_simp
                  try with_reducible rfl
                refine WQ.eq (a' := ?_) ?_ ?_
                rotate_left
                · try simp only [Act.put, List.setIfInBounds_toArray, List.set_cons_zero, List.set_cons_succ]
                  exact rfl
                refine WQ.load (by kernel_rfl) 61 (.tmp 164) rfl g (k * 68) ar.cells _ rfl (fun W hC => HROW.out W hC.1.own) Tryd.underlying61 rfl (rc_info HARW.out) ?_
                refine WQ.eq (a' := ?_) ?_ ?_
                rotate_left
                · try simp only [Act.put, List.setIfInBounds_toArray, List.set_cons_zero, List.set_cons_succ]
                  exact rfl
                refine WQ.bin (by kernel_rfl) .neq 61 61 (.tmp 161) (.tmp 165) rfl (.agg ar.cells.toArray) (.agg ar.cells.toArray) (.bool false) rfl rfl (rc_eqG _ _ _ _ _) (fun w => (rc_neq HARW.out HARW.out w).trans (by rw [decide_eq_true (rfl : ar = ar)]; rfl)) ?_
                refine WQ.eq (a' := ?_) ?_ ?_
                rotate_left
                · try simp only [Act.put, List.setIfInBounds_toArray, List.set_cons_zero, List.set_cons_succ]
                  exact rfl
                refine WQ.gen (v := ?_) (by kernel_rfl) ?_ ?_
                rotate_left
                · intro W hC
                  go_simp
                  try with_reducible rfl
                refine WQ.eq (a' := ?_) ?_ ?_
                rotate_left
                · try simp only [Act.put, List.setIfInBounds_toArray, List.set_cons_zero, List.set_cons_succ]
                  exact rfl
                refine WQ.nil ?_
                rintro w6 ⟨hD6, hB6⟩
                have HD6 := Lib.hid hD6.none
                have HB6 := Lib.hid hB6
                clear hD6 hB6
                go_wp2_with fail
                go_meet
                case rel => exact ⟨rfl, HD6, HB6⟩
            · obtain ⟨rfl, rfl⟩ := HBAD.out (of_decide_eq_true HBB.out.symm)
              go_wp2_with (first
                | (with_reducible refine wpList_load_rows_g (by kernel_rfl) 61 (.tmp 20) rfl b20 0 RC.zero.cells RC.zero.cells 61 (0, 0) _ rfl hT5 id_at Tryd.underlying61 rfl (rc_info RC.zero_wf) ?_)
                | (with_reducible refine wpList_build_g (by kernel_rfl) 61 [] rfl [] (.agg RC.zero.cells.toArray) rfl (rc_build0 _) ?_)
                | ((with_reducible refine wpList_bin_g (by kernel_rfl) .neq 61 61 (.tmp 154) (.tmp 155) rfl (.agg RC.zero.cells.toArray) (.agg RC.zero.cells.toArray) (.bool !(decide (RC.zero = RC.zero))) rfl rfl (rc_eqG _ _ _ _ _ _) (rc_neq RC.zero_wf RC.zero_wf _) ?_); rw [decide_eq_true (rfl : RC.zero = RC.zero)]))
              go_meet
              case rel => exact ⟨rfl, show DoAt _ _ _ _ _ _ _ from HD5.out.none, Below.refl _ _⟩
            -- ENDBAD
        case rest =>
          obtain ⟨rfl, HD6, HB6⟩ := hcut
          have HBc := Lib.hid (bw_call HB5.out HB6.out)
          clear HD5 HB5 HB6 HD HBB
          generalize wc = w6 at *
          obtain ⟨ok, hok⟩ : ∃ x, x = decide (0 ≤ who ∧ who < 64) := ⟨_, rfl⟩
          obtain ⟨ln, hln⟩ : ∃ x, x = lnextOf (cnt rs) who := ⟨_, rfl⟩
          have HLN : Hid (ok = true → ((nextCnt rs who : Nat) : Int) = ln) := show _ → _ from fun h => by
            rw [hok] at h
            have h2 := of_decide_eq_true h
            obtain ⟨k, rfl⟩ : ∃ k : Nat, who = k := ⟨who.toNat, by omega⟩
            have h1 := cnt_next rs zn64 k (by omega) rfl
            rw [zn64_get k (by omega), Int.zero_add] at h1
            rw [hln, lnextOf, if_pos h2, Int.toNat_natCast, cnt, h1]
          have HLN0 : Hid (ok = false → ln = 0) := show _ → _ from fun h => by
            rw [hok] at h
            rw [hln, lnextOf, if_neg (of_decide_eq_false h)]
          have HLNX : Hid (∀ W, LgAt W (w.heap.size + 1) w.heap.size sv rs (cnt rs) → Calls Tryd.prog 56 #[.pointer (some ⟨w.heap.size, 0, none⟩), .int .i64 who] W fun e w' => e = .returned (.int .i64 ln) ∧ w' = W) := show ∀ W, _ from fun W h => by
            rw [hln]
            exact lnext_any _ _ sv rs _ who W h
          have HOK := Lib.hid hok
          clear hok hln
          -- LAST
          go_upto_region 35 with fail
          go_cut [173] (fun t wx => t = .bool ok ∧ wx = w6)
          case first =>
            as_aux_lemma =>
              -- OKK
              by_cases h1 : 0 ≤ who
              · have hd1 : decide (0 ≤ who) = true := decide_eq_true h1
                by_cases h2 : who < 64
                · have hd2 : decide (who < 64) = true := decide_eq_true h2
                  have HBT : Hid (ok = true) := show _ = _ from by rw [HOK.out]; exact decide_eq_true ⟨h1, h2⟩
                  clear h1 h2
                  go_wp2_with fail
                  go_meet
                  case rel => exact ⟨by rw [HBT.out], rfl⟩
                · have hd2 : decide (who < 64) = false := decide_eq_false h2
                  have HBT : Hid (ok = false) := show _ = _ from by rw [HOK.out]; exact decide_eq_false (fun h => h2 h.2)
                  clear h1 h2
                  go_wp2_with fail
                  go_meet
                  case rel => exact ⟨by rw [HBT.out], rfl⟩
              · have hd1 : decide (0 ≤ who) = false := decide_eq_false h1
                have HBT : Hid (ok = false) := show _ = _ from by rw [HOK.out]; exact decide_eq_false (fun h => h1 h.1)
                clear h1
                go_wp2_with fail
                go_meet
                case rel => exact ⟨by rw [HBT.out], rfl⟩
              -- ENDOKK
          case rest =>
            obtain ⟨rfl, rfl⟩ := hcut
            go_upto_if 173 with fail
            go_cut [22] (fun v wx => v = .int .i64 ln ∧ Hid (DoAt w wx sv (.slice qx n cx) rs rs []) ∧ Hid (Below Wb.heap.size Wb wx))
            case first =>
              as_aux_lemma =>
                -- NX
                cases ok
                · obtain rfl := HLN0.out rfl
                  go_wp2_with fail
                  go_meet
                  case rel => exact ⟨rfl, HD6, HBc⟩
                · obtain rfl := HLN.out rfl
                  go_wp2_with fail
                  refine (rnext_any w.heap.size (.slice qx n cx) rs who _ HD6.out.own HWF.out (by have := HN.out; omega)).mono ?_
                  rintro e w7 ⟨rfl, hb7⟩
                  have HD7 := Lib.hid (HD6.out.next hb7)
                  have HB7 := Lib.hid (bw_call HBc.out hb7)
                  clear hb7
                  go_wp2_with fail
                  go_meet
                  case rel => exact ⟨rfl, HD7, HB7⟩
                -- ENDNX
            case rest =>
              obtain ⟨rfl, HD8, HB8⟩ := hcut
              clear HD6 HBc HLN HLN0 HOK
              -- FIN
              as_aux_lemma =>
                go_wp2_with fail
                refine (len_any _ _ _ rs _ _ HD8.out.lg).mono ?_
                rintro e w9 ⟨rfl, rfl⟩
                rw [← HN.out]
                go_wp2_with fail
                refine (lfrom_any (w.heap.size + 1) w.heap.size sv rs (cnt rs) i _ HD8.out.lg HD8.out.lg.lts.1).mono ?_
                rintro e w10 ⟨⟨v10, rfl, hO10⟩, hb10⟩
                rw [← HFI.out] at hO10
                have HO10 := Lib.hid hO10
                have HD10 := Lib.hid (HD8.out.next hb10)
                have HB10 := Lib.hid (bw_call HB8.out hb10)
                clear hO10 hb10 HD8 HB8
                go_wp2_with fail
                refine (same2_any _ v10 q19 c19 fi fi _ HO10.out (HQ19.out.imp id (fun ⟨g, off, h1, h2⟩ => ⟨g, off, h1, h2.below HB10.out⟩)) HFW.out HFW.out (Nat.le_trans HFL.out (by decide))).mono ?_
                rintro e w11 ⟨rfl, hb11⟩
                rw [decide_eq_true (rfl : fi = fi)]
                have HD11 := Lib.hid (HD10.out.next hb11)
                clear hb11 HD10 HB10 HO10
                go_wp2_with fail
                refine (taken_any (w.heap.size + 1) w.heap.size sv rs (cnt rs) i _ HD11.out.lg HD11.out.lg.lts.1).mono ?_
                rintro e w12 ⟨rfl, hb12⟩
                have HD12 := Lib.hid (HD11.out.next hb12)
                clear hb12 HD11
                generalize htk : takenOf rs i = tk
                have HTK := Lib.hid htk
                clear htk
                go_wp2_with fail
                refine (rtaken_any w.heap.size (.slice qx n cx) rs i _ HD12.out.own HWF.out (by have := HN.out; omega)).mono ?_
                rintro e w13 ⟨rfl, rfl⟩
                rw [HTK.out]
                go_wp2_with fail
                refine (HLNX.out _ HD12.out.lg).mono ?_
                rintro e w14 ⟨rfl, rfl⟩
                go_wp2_with fail
                go_ret
                exact ⟨rfl, HD12.out.b⟩
                -- ENDFIN
          -- ENDLAST
end Go.Proofs.YtckfdmkjeocadaaDoor
