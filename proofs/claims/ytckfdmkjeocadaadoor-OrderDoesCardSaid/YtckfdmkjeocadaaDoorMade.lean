/- cavalcadelaw19.OrderNone: what the call does. cavalcadelaw19.time, cavalcaderef19.Same: what the calls do. cavalcadelaw19.made: what the call does. -/
import Derived.Test.YtckfdmkjeocadaaDoorAwake19
import Derived.Test.YtckfdmkjeocadaaDoorReg
namespace Go.Proofs.YtckfdmkjeocadaaDoor
open Go.RowKit
set_option maxHeartbeats 4000000
set_option maxRecDepth 4000
def actQ (kd lt : Int) (b : ByteArray) (ld : Bool) (r : RC) : List Value := .int .i64 kd :: .int .i64 lt :: .string b :: .bool ld :: r.cells
theorem actQ_at {kd lt : Int} {b : ByteArray} {ld : Bool} {r : RC} : ∀ j v, r.cells[j]? = some v → (actQ kd lt b ld r)[4 + j]? = some v := fun j v h => by
  unfold actQ
  rw [Nat.add_comm, List.getElem?_cons_succ, List.getElem?_cons_succ, List.getElem?_cons_succ, List.getElem?_cons_succ]
  exact h
theorem taken_nil (i : Int) (w : World) : Calls Tryd.prog 54 #[.pointer none, .int .i64 i] w fun e w' => e = .returned (.int .i64 0) ∧ w' = w := by
  go_enter Tryd.func54, Tryd.ntmps54
  go_wp2_with fail
  apply wp_scope_straight
  go_wp2_with fail
  apply wp_label
  go_wp2_with fail
  refine (lfrom_nil 0 _).mono ?_
  rintro e w1 ⟨rfl, rfl⟩
  go_wp2_with fail
  go_loopw [5, 11] (fun n k wr => n = .int .i64 0 ∧ k = .int .i64 0 ∧ wr = w1) (fun _ _ _ => 0)
  case atStart => exact ⟨rfl, rfl, rfl⟩
  case round =>
    obtain ⟨rfl, rfl, rfl⟩ := hrel
    go_wp2_with fail
    rw [Exit.noGoto_ret]
    go_ret
    exact ⟨rfl, rfl⟩
theorem orderNone_any (kd lt : Int) (b : ByteArray) (ld : Bool) (r : RC) (i : Int) (w : World) (hr : r.wf) (hR : RoundsAt w) :
    Calls Tryd.prog 12 #[.agg (actQ kd lt b ld r).toArray, .int .i64 i] w fun e w' => e = .returned (.bool true) ∧ Below w.heap.size w w' := by
  have HRW := Lib.hid hr
  have HR := Lib.hid hR
  have hg0 := heap_alloc_new w (.cells (actQ kd lt b ld r).toArray 71)
  have HB0 := Lib.hid (bw_alloc (Below.refl w.heap.size w) (.cells (actQ kd lt b ld r).toArray 71))
  have c0 : (w.alloc (.cells (actQ kd lt b ld r).toArray 71)).cell? ⟨w.heap.size, 0, none⟩ = some (.int .i64 kd) := by rw [cell_of_row _ w.heap.size 0 _ _ _ hg0]; rfl
  have c1 : (w.alloc (.cells (actQ kd lt b ld r).toArray 71)).cell? ⟨w.heap.size, 1, none⟩ = some (.int .i64 lt) := by rw [cell_of_row _ w.heap.size 1 _ _ _ hg0]; rfl
  have c2 : (w.alloc (.cells (actQ kd lt b ld r).toArray 71)).cell? ⟨w.heap.size, 2, none⟩ = some (.string b) := by rw [cell_of_row _ w.heap.size 2 _ _ _ hg0]; rfl
  clear hr hR
  go_enter Tryd.func12, Tryd.ntmps12
  go_wp2_with fail
  refine (add_nil kd b lt _).mono ?_
  rintro e w1 ⟨rfl, hb1⟩
  have hA1 := keep_row hb1 hg0
  have hA1a := (Below.heap_alloc w1 (.cells Tryd.zeroCells61 61) _ (block_lt hA1)).trans hA1
  have hz1 : (w1.alloc (.cells Tryd.zeroCells61 61)).heap[w1.heap.size]? = some (.cells zlRc.toArray 61 (0, 0)) := heap_alloc_new w1 _
  have HB1 := Lib.hid (bw_alloc (bw_call HB0.out hb1) (.cells Tryd.zeroCells61 61))
  have hn1 : w.heap.size ≠ w1.heap.size := Nat.ne_of_lt (block_lt hA1)
  have hl1 : w.heap.size ≤ w1.heap.size := Nat.le_of_lt (block_lt hA1)
  clear hb1 hg0 c0 c1 c2 hA1 HB0
  go_wp2_with ((with_reducible refine wpList_store_whole rfl 61 (.tmp 6) (.tmp 19) rfl w1.heap.size RC.zero.cells zlRc 61 rfl rfl hz1 rfl (rc_info RC.zero_wf) (rc_one _) ?_); intro w2 hU2; have hV2 := hU2.out.at_; have hA2 := (hU2.out.other _ hn1).trans hA1a; have HB2 := Lib.hid (hU2.out.below HB1.out hl1); clear hz1 hA1a)
  refine (at_nil i _).mono ?_
  rintro e w3 ⟨rfl, hb3⟩
  have hA3 := keep_row hb3 hA2
  have hV3 := keep_row hb3 hV2
  have hA3a := (Below.heap_alloc w3 (.cells Tryd.zeroCells61 61) _ (block_lt hA3)).trans hA3
  have hV3a := (Below.heap_alloc w3 (.cells Tryd.zeroCells61 61) _ (block_lt hV3)).trans hV3
  have hz3 : (w3.alloc (.cells Tryd.zeroCells61 61)).heap[w3.heap.size]? = some (.cells zlRc.toArray 61 (0, 0)) := heap_alloc_new w3 _
  have HB3 := Lib.hid (bw_alloc (bw_call HB2.out hb3) (.cells Tryd.zeroCells61 61))
  have hn3 : w.heap.size ≠ w3.heap.size := Nat.ne_of_lt (block_lt hA3)
  have hm3 : w1.heap.size ≠ w3.heap.size := Nat.ne_of_lt (block_lt hV3)
  have hl3 : w.heap.size ≤ w3.heap.size := Nat.le_of_lt (block_lt hA3)
  clear hb3 hA2 hV2 hA3 hV3 HB1 HB2
  generalize w1.heap.size = b1 at *
  go_wp2_with ((with_reducible refine wpList_store_whole rfl 61 (.tmp 8) (.tmp 25) rfl w3.heap.size RC.zero.cells zlRc 61 rfl rfl hz3 rfl (rc_info RC.zero_wf) (rc_one _) ?_); intro w4 hU4; have hX4 := hU4.out.at_; have hA4 := (hU4.out.other _ hn3).trans hA3a; have hV4 := (hU4.out.other _ hm3).trans hV3a; have HB4 := Lib.hid (hU4.out.below HB3.out hl3); clear hz3 hA3a hV3a)
  refine (awake19_any _ (HR.out.below HB4.out HR.out.1)).mono ?_
  rintro e w5 ⟨rfl, hb5⟩
  have hA5 := keep_row hb5 hA4
  have hV5 := keep_row hb5 hV4
  have hX5 := keep_row hb5 hX4
  have HB5 := Lib.hid (bw_call HB4.out hb5)
  clear hb5 hA4 hV4 hX4
  generalize w3.heap.size = b3 at *
  go_wp2_with (first
    | (with_reducible refine wpList_load_rows_g (by kernel_rfl) 61 (.tmp 6) rfl b1 0 RC.zero.cells RC.zero.cells 61 (0, 0) _ rfl hV5 id_at Tryd.underlying61 rfl (rc_info RC.zero_wf) ?_)
    | (with_reducible refine wpList_load_rows_g (by kernel_rfl) 61 (.tmp 8) rfl b3 0 RC.zero.cells RC.zero.cells 61 (0, 0) _ rfl hX5 id_at Tryd.underlying61 rfl (rc_info RC.zero_wf) ?_)
    | (with_reducible refine wpList_load_rows_g (by kernel_rfl) 61 (.tmp 48) rfl w.heap.size 4 r.cells (actQ kd lt b ld r) 71 (0, 0) _ rfl hA5 actQ_at Tryd.underlying61 rfl (rc_info HRW.out) ?_)
    | (with_reducible refine wpList_build_g (by kernel_rfl) 61 [] rfl [] (.agg RC.zero.cells.toArray) rfl (rc_build0 _) ?_)
    | ((with_reducible refine wpList_bin_g (by kernel_rfl) .eql 61 61 (.tmp 29) (.tmp 30) rfl (.agg RC.zero.cells.toArray) (.agg RC.zero.cells.toArray) (.bool (decide (RC.zero = RC.zero))) rfl rfl (rc_eqG _ _ _ _ _ _) (rc_eql RC.zero_wf RC.zero_wf _) ?_); rw [decide_eq_true (rfl : RC.zero = RC.zero)])
    | ((with_reducible refine wpList_bin_g (by kernel_rfl) .eql 61 61 (.tmp 34) (.tmp 35) rfl (.agg RC.zero.cells.toArray) (.agg RC.zero.cells.toArray) (.bool (decide (RC.zero = RC.zero))) rfl rfl (rc_eqG _ _ _ _ _ _) (rc_eql RC.zero_wf RC.zero_wf _) ?_); rw [decide_eq_true (rfl : RC.zero = RC.zero)]))
  refine (load_nil r _).mono ?_
  rintro e w6 ⟨rfl, hb6⟩
  have HB6 := Lib.hid (bw_call HB5.out hb6)
  clear hb6 hA5 hV5 hX5
  go_wp2_with fail
  refine (lfrom_nil i _).mono ?_
  rintro e w7 ⟨rfl, rfl⟩
  go_wp2_with fail
  refine (len_nil _).mono ?_
  rintro e w8 ⟨rfl, rfl⟩
  go_wp2_with fail
  refine (lnext_nil i _).mono ?_
  rintro e w9 ⟨rfl, rfl⟩
  go_wp2_with fail
  refine (taken_nil i _).mono ?_
  rintro e w10 ⟨rfl, rfl⟩
  go_wp2_with fail
  refine (head_nil _).mono ?_
  rintro e w11 ⟨rfl, hb11⟩
  have HB11 := Lib.hid (bw_call HB6.out hb11)
  clear hb11
  go_wp2_with (first
    | (with_reducible refine wpList_build_g (by kernel_rfl) 23 [] rfl [] (.agg (u8s z32).toArray) rfl (hash0_build _) ?_)
    | ((with_reducible refine wpList_bin_g (by kernel_rfl) .eql 23 23 (.tmp 73) (.tmp 74) rfl (.agg (u8s z32).toArray) (.agg (u8s z32).toArray) (.bool (decide (z32 = z32))) rfl rfl (hash_eqG _ _ _ _ _ _) (hash_eql z32_length z32_length _) ?_); rw [decide_eq_true (rfl : z32 = z32)]))
  go_ret
  exact ⟨rfl, HB11.out⟩
open Go.RowKit
set_option maxHeartbeats 2000000
set_option maxRecDepth 4000
def timeOf (rs : List RC) (lt : Int) : Int := match rs[rs.length - 1]? with | none => lt | some r => if lt < -1000 ∨ 1000 < lt then lt else r.time + lt
theorem ltime_any (base : Nat) (v : Value) (rs : List RC) (kd lt : Int) (b : ByteArray) (ld : Bool) (ra : RC) (w : World) (hO : w.ownsRow base 61 68 v rs.length (rcells rs)) (hwf : ∀ r ∈ rs, r.wf) (hg : ∀ r ∈ rs, 0 ≤ r.time ∧ r.time ≤ 1099511627776) (hsm : rs.length ≤ 1000) :
    Calls Tryd.prog 51 #[v, .agg (actQ kd lt b ld ra).toArray] w fun e w' => e = .returned (.int .i64 (timeOf rs lt)) ∧ Below w.heap.size w w' := by
  have hg0 := heap_alloc_new w (.cells (actQ kd lt b ld ra).toArray 71)
  have HB0 := Lib.hid (bw_alloc (Below.refl w.heap.size w) (.cells (actQ kd lt b ld ra).toArray 71))
  have c1 : (w.alloc (.cells (actQ kd lt b ld ra).toArray 71)).cell? ⟨w.heap.size, 1, none⟩ = some (.int .i64 lt) := by rw [cell_of_row _ w.heap.size 1 _ _ _ hg0]; rfl
  obtain ⟨tt, htt⟩ : ∃ x, x = timeOf rs lt := ⟨_, rfl⟩
  rw [← htt]
  have HT := Lib.hid htt
  clear htt
  rcases own_rcs hO with ⟨rfl, rfl⟩ | ⟨g, c, rfl, hrow, _, _, _⟩
  · have HQ : Hid (tt = lt) := show _ = _ from HT.out
    clear hg0 hO
    go_enter Tryd.func51, Tryd.ntmps51
    go_wp2_with fail
    go_ret
    exact ⟨by rw [HQ.out]; rfl, HB0.out⟩
  · by_cases hm0 : rs.length = 0
    · have hrs : rs = [] := List.length_eq_zero_iff.1 hm0
      subst hrs
      have HQ : Hid (tt = lt) := show _ = _ from HT.out
      clear hg0 hO hrow hm0
      go_enter Tryd.func51, Tryd.ntmps51
      go_wp2_with fail
      go_ret
      exact ⟨by rw [HQ.out]; rfl, HB0.out⟩
    · obtain ⟨m, hm⟩ : ∃ m, m = rs.length := ⟨_, rfl⟩
      obtain ⟨n, hn2⟩ : ∃ n, m = n + 1 := ⟨m - 1, by omega⟩
      have hnl : n < rs.length := by omega
      obtain ⟨cur, fr, hgc, hat⟩ := hrow.one hwf n hnl
      obtain ⟨r, hr⟩ : ∃ r, r = rs[n]'hnl := ⟨_, rfl⟩
      rw [← hr] at hat
      have htm := hg r (by rw [hr]; exact List.getElem_mem hnl)
      have HQ0 : Hid (tt = if lt < -1000 ∨ 1000 < lt then lt else r.time + lt) := show _ = _ by
        rw [HT.out, timeOf, show rs.length - 1 = n by omega, List.getElem?_eq_getElem hnl, hr]
      have hgk := (Below.heap_alloc w (.cells (actQ kd lt b ld ra).toArray 71) _ (block_lt hgc)).trans hgc
      have ct : (w.alloc (.cells (actQ kd lt b ld ra).toArray 71)).cell? ⟨g, n * 68 + 2, none⟩ = some (.int .i64 r.time) := by
        rw [cell_of_row _ g _ _ _ _ hgk, List.getElem?_toArray]
        have := hat 2 _ (show r.cells[2]? = some _ from rfl)
        rw [Nat.zero_add] at this
        exact this
      rw [← hm]
      have hb : ((m : Int) == 0) = false := by rw [beq_eq_false_iff_ne]; omega
      have e1 : IntKind.i64.wrap ((m : Int) - 1) = (n : Int) := by rw [show (m : Int) - 1 = n by omega]; exact IntWalk.i64_in _ (by omega)
      have f0 : (0 : Int) ≤ n := by omega
      have f1 : (n : Int) < m := by omega
      clear hO hrow hgc hat hr hg hwf hnl hm hn2 hsm hm0 hg0 hgk
      by_cases h1 : lt < -1000
      · have hd1 : decide (lt < -1000) = true := decide_eq_true h1
        have HQ : Hid (tt = lt) := show _ = _ by rw [HQ0.out, if_pos (.inl h1)]
        clear h1
        go_enter Tryd.func51, Tryd.ntmps51
        go_wp2_with fail
        go_ret
        exact ⟨by rw [HQ.out]; rfl, HB0.out⟩
      · have hd1 : decide (lt < -1000) = false := decide_eq_false h1
        by_cases h2 : 1000 < lt
        · have hd2 : decide (1000 < lt) = true := decide_eq_true h2
          have HQ : Hid (tt = lt) := show _ = _ by rw [HQ0.out, if_pos (.inr h2)]
          clear h1 h2
          go_enter Tryd.func51, Tryd.ntmps51
          go_wp2_with fail
          go_ret
          exact ⟨by rw [HQ.out]; rfl, HB0.out⟩
        · have hd2 : decide (1000 < lt) = false := decide_eq_false h2
          have HQ : Hid (tt = r.time + lt) := show _ = _ by rw [HQ0.out, if_neg (by omega)]
          have e2 : IntKind.i64.wrap (r.time + lt) = r.time + lt := IntWalk.i64_in _ (by omega)
          clear h1 h2 htm
          go_enter Tryd.func51, Tryd.ntmps51
          go_wp2_with fail
          go_quiet (fail)
          have hb4 := bw_drewN HB0.out nq
          have HB4 := Lib.hid hb4
          go_wp2_with fail
          go_ret
          exact ⟨by rw [HQ.out]; rfl, HB4.out⟩
theorem same_any (b1 b2 : Nat) (v1 v2 : Value) (rs1 rs2 : List RC) (w : World) (h1 : w.ownsRow b1 61 68 v1 rs1.length (rcells rs1)) (h2 : w.ownsRow b2 61 68 v2 rs2.length (rcells rs2)) (hw1 : ∀ r ∈ rs1, r.wf) (hw2 : ∀ r ∈ rs2, r.wf) (hsm : rs1.length ≤ 1000) :
    Calls Tryd.prog 47 #[v1, v2] w fun e w' => e = .returned (.bool (decide (rs1 = rs2))) ∧ Below w.heap.size w w' := by
  obtain ⟨q1, c1, rfl, hq1⟩ := own_rcs2 h1
  obtain ⟨q2, c2, rfl, hq2⟩ := own_rcs2 h2
  have HQ1 := Lib.hid hq1
  have HQ2 := Lib.hid hq2
  have HW1 := Lib.hid hw1
  have HW2 := Lib.hid hw2
  obtain ⟨res, hres⟩ : ∃ x, x = decide (rs1 = rs2) := ⟨_, rfl⟩
  rw [← hres]
  have HRES := Lib.hid hres
  obtain ⟨m, hm⟩ : ∃ m, m = rs1.length := ⟨_, rfl⟩
  obtain ⟨k, hk⟩ : ∃ k, k = rs2.length := ⟨_, rfl⟩
  rw [← hm, ← hk]
  rw [← hm] at hsm
  have HM := Lib.hid hm
  have HK := Lib.hid hk
  clear h1 h2 hq1 hq2 hw1 hw2 hres hm hk
  by_cases hmk : m = k
  · subst hmk
    go_enter Tryd.func47, Tryd.ntmps47
    go_wp2_with fail
    go_loopw [5] (fun i wr => ∃ j : Nat, j ≤ m ∧ i = .int .i64 j ∧ Hid (∀ x, x < j → rs1[x]? = rs2[x]?) ∧ Hid (Below w.heap.size w wr)) (fun i _ => m - (intOf i).toNat)
    case atStart => exact ⟨0, by omega, rfl, show ∀ x, _ from fun x hx => absurd hx (by omega), Below.refl _ _⟩
    case round =>
      obtain ⟨j, hj, rfl, HE, HB⟩ := hrel
      by_cases hlt : j < m
      · have hl1 : j < rs1.length := by have := HM.out; omega
        have hl2 : j < rs2.length := by have := HK.out; omega
        rcases HQ1.out with h | ⟨g1, rfl, hr1, -, -, -⟩
        · exact absurd hl1 (by rw [h]; simp)
        rcases HQ2.out with h | ⟨g2, rfl, hr2, -, -, -⟩
        · exact absurd hl2 (by rw [h]; simp)
        obtain ⟨cur1, fr1, hg1, hat1⟩ := hr1.one HW1.out j hl1
        obtain ⟨cur2, fr2, hg2, hat2⟩ := hr2.one HW2.out j hl2
        obtain ⟨r1, hrr1⟩ : ∃ r, r = rs1[j]'hl1 := ⟨_, rfl⟩
        obtain ⟨r2, hrr2⟩ : ∃ r, r = rs2[j]'hl2 := ⟨_, rfl⟩
        rw [← hrr1] at hat1
        rw [← hrr2] at hat2
        have HRW1 : Hid r1.wf := show _ from by rw [hrr1]; exact HW1.out _ (List.getElem_mem hl1)
        have HRW2 : Hid r2.wf := show _ from by rw [hrr2]; exact HW2.out _ (List.getElem_mem hl2)
        have HRG1 : Hid (∀ n, (wr.drewN n).rangeAt g1 (j * 68) r1.cells) := show ∀ n, _ from fun n => range_row ((HB.out.block _ (block_lt hg1)).trans hg1) (fun x v hv => by have := hat1 x v hv; rw [Nat.zero_add] at this; exact this)
        have HRG2 : Hid (∀ n, (wr.drewN n).rangeAt g2 (j * 68) r2.cells) := show ∀ n, _ from fun n => range_row ((HB.out.block _ (block_lt hg2)).trans hg2) (fun x v hv => by have := hat2 x v hv; rw [Nat.zero_add] at this; exact this)
        have HEQ : Hid (rs1[j]? = some r1 ∧ rs2[j]? = some r2) := show _ ∧ _ from ⟨by rw [List.getElem?_eq_getElem hl1, hrr1], by rw [List.getElem?_eq_getElem hl2, hrr2]⟩
        have f0 : (0 : Int) ≤ j := by omega
        have f1 : (j : Int) < m := by omega
        clear hr1 hr2 hg1 hg2 hat1 hat2 hrr1 hrr2 hl1 hl2
        go_wp2_with fail
        refine wp_region_class (fun W => ∃ n, W = wr.drewN n) (by kernel_rfl) (by kernel_rfl) ⟨1, rfl⟩ ?_
        refine wq_gen (v := ?_) (by kernel_rfl) ?_ ?_
        rotate_left
        · intro W hC
          go_simp
          try with_reducible rfl
        try simp only [Act.put, List.setIfInBounds_toArray, List.set_cons_zero, List.set_cons_succ]
        refine wq_gen (v := ?_) (by kernel_rfl) ?_ ?_
        rotate_left
        · intro W hC
          go_simp
          try with_reducible rfl
        try simp only [Act.put, List.setIfInBounds_toArray, List.set_cons_zero, List.set_cons_succ]
        refine wq_gen (v := ?_) (by kernel_rfl) ?_ ?_
        rotate_left
        · intro W hC
          go_simp
          try with_reducible rfl
        try simp only [Act.put, List.setIfInBounds_toArray, List.set_cons_zero, List.set_cons_succ]
        refine wq_load (by kernel_rfl) 61 (.tmp 19) rfl g1 (j * 68) r1.cells _ rfl (fun W hC => by obtain ⟨n, rfl⟩ := hC; exact HRG1.out n) Tryd.underlying61 rfl (rc_info HRW1.out) ?_
        try simp only [Act.put, List.setIfInBounds_toArray, List.set_cons_zero, List.set_cons_succ]
        refine wq_gen (v := ?_) (by kernel_rfl) ?_ ?_
        rotate_left
        · intro W hC
          go_simp
          try with_reducible rfl
        try simp only [Act.put, List.setIfInBounds_toArray, List.set_cons_zero, List.set_cons_succ]
        refine wq_gen (v := ?_) (by kernel_rfl) ?_ ?_
        rotate_left
        · intro W hC
          go_simp
          try with_reducible rfl
        try simp only [Act.put, List.setIfInBounds_toArray, List.set_cons_zero, List.set_cons_succ]
        refine wq_gen (v := ?_) (by kernel_rfl) ?_ ?_
        rotate_left
        · intro W hC
          go_simp
          try with_reducible rfl
        try simp only [Act.put, List.setIfInBounds_toArray, List.set_cons_zero, List.set_cons_succ]
        refine wq_load (by kernel_rfl) 61 (.tmp 23) rfl g2 (j * 68) r2.cells _ rfl (fun W hC => by obtain ⟨n, rfl⟩ := hC; exact HRG2.out n) Tryd.underlying61 rfl (rc_info HRW2.out) ?_
        try simp only [Act.put, List.setIfInBounds_toArray, List.set_cons_zero, List.set_cons_succ]
        by_cases hr12 : r1 = r2
        · refine wq_bin (by kernel_rfl) .neq 61 61 (.tmp 20) (.tmp 24) rfl (.agg r1.cells.toArray) (.agg r2.cells.toArray) (.bool false) rfl rfl (rc_eqG _ _ _ _ _) (fun w => (rc_neq HRW1.out HRW2.out w).trans (by rw [decide_eq_true hr12]; rfl)) ?_
          try simp only [Act.put, List.setIfInBounds_toArray, List.set_cons_zero, List.set_cons_succ]
          refine wpQuiet_nil ?_
          rintro w6 ⟨nq, rfl⟩
          have HB6 := Lib.hid (bw_drewN HB.out nq)
          go_wp2_with fail
          go_roundw
          case rel => exact ⟨j + 1, by omega, by go_num, show ∀ x, _ from fun x hx => (Nat.lt_succ_iff_lt_or_eq.1 hx).elim (HE.out x) (fun h => by rw [h, HEQ.out.1, HEQ.out.2, hr12]), HB6⟩
          case measure => simp [intOf]; omega
        · refine wq_bin (by kernel_rfl) .neq 61 61 (.tmp 20) (.tmp 24) rfl (.agg r1.cells.toArray) (.agg r2.cells.toArray) (.bool true) rfl rfl (rc_eqG _ _ _ _ _) (fun w => (rc_neq HRW1.out HRW2.out w).trans (by rw [decide_eq_false hr12]; rfl)) ?_
          try simp only [Act.put, List.setIfInBounds_toArray, List.set_cons_zero, List.set_cons_succ]
          have HF : Hid (res = false) := show _ = _ by
            rw [HRES.out]
            refine decide_eq_false (fun h => hr12 ?_)
            have h3 := HEQ.out
            rw [h] at h3
            exact Option.some.inj (h3.1.symm.trans h3.2)
          refine wpQuiet_nil ?_
          rintro w6 ⟨nq, rfl⟩
          have HB6 := Lib.hid (bw_drewN HB.out nq)
          go_wp2_with fail
          go_ret
          exact ⟨by rw [HF.out]; rfl, HB6.out⟩
      · obtain rfl : j = m := by omega
        have HF : Hid (res = true) := show _ = _ by
          rw [HRES.out]
          refine decide_eq_true (List.ext_getElem? fun x => ?_)
          by_cases hx : x < j
          · exact HE.out x hx
          · rw [List.getElem?_eq_none (by have := HM.out; omega), List.getElem?_eq_none (by have := HK.out; omega)]
        go_wp2_with fail
        go_ret
        exact ⟨by rw [HF.out]; rfl, HB.out⟩
  · have HF : Hid (res = false) := show _ = _ by
      rw [HRES.out]
      exact decide_eq_false (fun h => hmk (by rw [HM.out, HK.out, h]))
    have hd : ((m : Int) != (k : Int)) = true := by rw [bne_iff_ne]; omega
    clear hmk
    go_enter Tryd.func47, Tryd.ntmps47
    go_wp2_with fail
    go_ret
    exact ⟨by rw [HF.out]; rfl, Below.refl _ _⟩
open Go.RowKit
set_option maxHeartbeats 4000000
set_option maxRecDepth 4000
/-- a call that the law lets a log do -/
structure ACT where
  kd : Int
  lt : Int
  body : ByteArray
  ld : Bool
  r : RC
structure ACT.wf (a : ACT) : Prop where
  kd : i64ok a.kd
  lt : i64ok a.lt
  body : a.body.size ≤ 140737488351232
  r : a.r.wf
def ACT.cells (a : ACT) : List Value := actQ a.kd a.lt a.body a.ld a.r
theorem ACT.cells_length {a : ACT} (h : a.wf) : a.cells.length = 72 := by
  have h2 := RC.cells_length h.r.prev h.r.hash
  simp [ACT.cells, actQ, h2]
theorem act_info {a : ACT} (h : a.wf) : (Tryd.prog.info? 71).map (·.size) = some a.cells.length := by rw [ACT.cells_length h]; kernel_rfl
/-- calls that are laid one behind the other -/
def ActsAt (W : World) (v : Value) (acts : List ACT) : Prop := ∃ q c, v = .slice q acts.length c ∧ (acts = [] ∨ ∃ b off, q = some ⟨b, off, none⟩ ∧ b < W.heap.size ∧ ∀ i (h : i < acts.length), W.rangeAt b (off + i * 72) (acts[i]'h).cells)
theorem range_below {W W' : World} {b o : Nat} {cs : List Value} (h : W.rangeAt b o cs) {B : Nat} (hb : Below B W W') (hB : b < B) : W'.rangeAt b o cs := fun j v hj => (hb.cell (show (⟨b, o + j, none⟩ : Addr).block < B from hB)).trans (h j v hj)
theorem timeOf_ok {rs : List RC} {lt : Int} (hl : i64ok lt) (hg : ∀ r ∈ rs, 0 ≤ r.time ∧ r.time ≤ 1099511627776) : i64ok (timeOf rs lt) := by
  unfold timeOf
  split
  · exact hl
  · rename_i r hr
    split
    · exact hl
    · have := hg r (List.mem_of_getElem? hr)
      have h1 := hl.1
      have h2 := hl.2
      constructor <;> omega
theorem chain_time {rs : List RC} (h : Chain rs) : ∀ r ∈ rs, 0 ≤ r.time ∧ r.time ≤ 1099511627776 := fun r hr => (RC.good_is (h.wf r hr)).2.1
theorem made_any (acts : List ACT) (v : Value) (w : World) (hA : ActsAt w v acts) (hwf : ∀ a ∈ acts, a.wf) (hR : RoundsAt w) :
    Calls Tryd.prog 39 #[v] w fun e w' => ∃ sv rs, e = .returned (.pointer (some ⟨w.heap.size, 0, none⟩)) ∧ LgAt w' (w.heap.size + 1) w.heap.size sv rs (cnt rs) ∧ Chain rs ∧ rs.length ≤ 40 ∧ Below w.heap.size w w' := by
  obtain ⟨q, c, rfl, hq⟩ := hA
  have HQ := Lib.hid hq
  have HWF := Lib.hid hwf
  have HR := Lib.hid hR
  obtain ⟨m, hm⟩ : ∃ m, m = acts.length := ⟨_, rfl⟩
  rw [← hm]
  have HM := Lib.hid hm
  clear hq hwf hR hm
  go_enter Tryd.func39, Tryd.ntmps39
  go_wp2_with fail
  refine (new_log _).mono ?_
  rintro e w1 ⟨rfl, hL1, hb1⟩
  have HL1 := Lib.hid hL1
  have HB1 := Lib.hid hb1
  clear hL1 hb1
  go_wp2_with fail
  go_loopw [4] (fun k wr => ∃ (j : Nat) (sv : Value) (rs : List RC), j ≤ 40 ∧ rs.length ≤ j ∧ k = .int .i64 j ∧ Hid (Chain rs) ∧ Hid (LgAt wr (w.heap.size + 1) w.heap.size sv rs (cnt rs)) ∧ Hid (Below w.heap.size w wr)) (fun k _ => 40 - (intOf k).toNat)
  case atStart => exact ⟨0, .slice none 0 0, [], by omega, by simp, rfl, Chain.nil, HL1, HB1⟩
  case round =>
    obtain ⟨j, sv, rs, hj, hrj, rfl, HC, HL, HB⟩ := hrel
    by_cases hlt : j < m
    · have hd0 : decide ((j : Int) < m) = true := decide_eq_true (by omega)
      by_cases h40 : j < 40
      · have hd1 : decide ((j : Int) < 40) = true := decide_eq_true (by omega)
        have hl2 : j < acts.length := by have := HM.out; omega
        rcases HQ.out with h | ⟨b, off, rfl, hbw, hat⟩
        · exact absurd hl2 (by rw [h]; simp)
        obtain ⟨a, ha⟩ : ∃ a, a = acts[j]'hl2 := ⟨_, rfl⟩
        have HAW : Hid a.wf := show _ from by rw [ha]; exact HWF.out _ (List.getElem_mem hl2)
        have HRG : Hid (w.rangeAt b (off + j * 72) a.cells) := show World.rangeAt _ _ _ _ from by rw [ha]; exact hat j hl2
        have c3 : wr.cell? ⟨b, off + j * 72 + 3, none⟩ = some (.bool a.ld) := range_below HRG.out HB.out hbw 3 _ rfl
        have KEEP : Hid (∀ W', Below w.heap.size w W' → (W'.rangeAt b (off + j * 72) a.cells ∧ W'.cell? ⟨b, off + j * 72, none⟩ = some (.int .i64 a.kd) ∧ W'.cell? ⟨b, off + j * 72 + 2, none⟩ = some (.string a.body))) := show ∀ W', _ from fun W' hb => ⟨range_below HRG.out hb hbw, range_below HRG.out hb hbw 0 _ rfl, range_below HRG.out hb hbw 2 _ rfl⟩
        have f0 : (0 : Int) ≤ j := by omega
        have f1 : (j : Int) < m := by omega
        clear hat hl2 ha HRG hlt
        cases hld : a.ld
        · rw [hld] at c3
          clear hld
          go_wp2_with fail
          have hu : Tryd.prog.underlying 71 = some _ := Tryd.underlying71
          have hwl := HL.out.lts.1
          refine wp_region_held_drew (S := fun W' => W'.rangeAt b (off + j * 72) a.cells ∧ W'.cell? ⟨b, off + j * 72, none⟩ = some (.int .i64 a.kd) ∧ W'.cell? ⟨b, off + j * 72 + 2, none⟩ = some (.string a.body)) (by kernel_rfl) (KEEP.out _ HB.out.drew) (fun hHeld => ?_)
          refine rg_gen (i := 0) (v := ?_) rfl (by kernel_rfl) (by kernel_rfl) (by kernel_rfl) (fun _ _ _ h => h) rfl (by rfl) ?_ (by assumption) ?_
          rotate_left
          · intro w hSw
            try dsimp only at hSw
            go_simp
            try with_reducible rfl
          try simp only [Act.put, List.setIfInBounds_toArray, List.set_cons_zero, List.set_cons_succ]
          refine rg_gen (i := 1) (v := ?_) rfl (by kernel_rfl) (by kernel_rfl) (by kernel_rfl) (fun _ _ _ h => h) rfl (by rfl) ?_ (by assumption) ?_
          rotate_left
          · intro w hSw
            try dsimp only at hSw
            go_simp
            try with_reducible rfl
          try simp only [Act.put, List.setIfInBounds_toArray, List.set_cons_zero, List.set_cons_succ]
          refine rg_gen (i := 2) (v := ?_) rfl (by kernel_rfl) (by kernel_rfl) (by kernel_rfl) (fun _ _ _ h => h) rfl (by rfl) ?_ (by assumption) ?_
          rotate_left
          · intro w hSw
            try dsimp only at hSw
            go_simp
            try with_reducible rfl
          try simp only [Act.put, List.setIfInBounds_toArray, List.set_cons_zero, List.set_cons_succ]
          refine rg_gen (i := 3) (v := ?_) rfl (by kernel_rfl) (by kernel_rfl) (by kernel_rfl) (fun _ _ _ h => h) rfl (by rfl) ?_ (by assumption) ?_
          rotate_left
          · intro w hSw
            try dsimp only at hSw
            go_simp
            try with_reducible rfl
          try simp only [Act.put, List.setIfInBounds_toArray, List.set_cons_zero, List.set_cons_succ]
          refine rg_gen (i := 4) (v := ?_) rfl (by kernel_rfl) (by kernel_rfl) (by kernel_rfl) (fun _ _ _ h => h) rfl (by rfl) ?_ (by assumption) ?_
          rotate_left
          · intro w hSw
            try dsimp only at hSw
            go_simp
            try with_reducible rfl
          try simp only [Act.put, List.setIfInBounds_toArray, List.set_cons_zero, List.set_cons_succ]
          refine rg_gen (i := 5) (v := ?_) rfl (by kernel_rfl) (by kernel_rfl) (by kernel_rfl) (fun _ _ _ h => h) rfl (by rfl) ?_ (by assumption) ?_
          rotate_left
          · intro w hSw
            try dsimp only at hSw
            go_simp
            try with_reducible rfl
          try simp only [Act.put, List.setIfInBounds_toArray, List.set_cons_zero, List.set_cons_succ]
          refine rg_gen (i := 6) (v := ?_) rfl (by kernel_rfl) (by kernel_rfl) (by kernel_rfl) (fun _ _ _ h => h) rfl (by rfl) ?_ (by assumption) ?_
          rotate_left
          · intro w hSw
            try dsimp only at hSw
            go_simp
            try with_reducible rfl
          try simp only [Act.put, List.setIfInBounds_toArray, List.set_cons_zero, List.set_cons_succ]
          refine rg_gen (i := 7) (v := ?_) rfl (by kernel_rfl) (by kernel_rfl) (by kernel_rfl) (fun _ _ _ h => h) rfl (by rfl) ?_ (by assumption) ?_
          rotate_left
          · intro w hSw
            try dsimp only at hSw
            go_simp
            try with_reducible rfl
          try simp only [Act.put, List.setIfInBounds_toArray, List.set_cons_zero, List.set_cons_succ]
          refine rg_gen (i := 8) (v := ?_) rfl (by kernel_rfl) (by kernel_rfl) (by kernel_rfl) (fun _ _ _ h => h) rfl (by rfl) ?_ (by assumption) ?_
          rotate_left
          · intro w hSw
            try dsimp only at hSw
            go_simp
            try with_reducible rfl
          try simp only [Act.put, List.setIfInBounds_toArray, List.set_cons_zero, List.set_cons_succ]
          refine rg_gen (i := 9) (v := ?_) rfl (by kernel_rfl) (by kernel_rfl) (by kernel_rfl) (fun _ _ _ h => h) rfl (by rfl) ?_ (by assumption) ?_
          rotate_left
          · intro w hSw
            try dsimp only at hSw
            go_simp
            try with_reducible rfl
          try simp only [Act.put, List.setIfInBounds_toArray, List.set_cons_zero, List.set_cons_succ]
          refine rg_gen (i := 10) (v := ?_) rfl (by kernel_rfl) (by kernel_rfl) (by kernel_rfl) (fun _ _ _ h => h) rfl (by rfl) ?_ (by assumption) ?_
          rotate_left
          · intro w hSw
            try dsimp only at hSw
            go_simp
            try with_reducible rfl
          try simp only [Act.put, List.setIfInBounds_toArray, List.set_cons_zero, List.set_cons_succ]
          refine rg_gen (i := 11) (v := ?_) rfl (by kernel_rfl) (by kernel_rfl) (by kernel_rfl) (fun _ _ _ h => h) rfl (by rfl) ?_ (by assumption) ?_
          rotate_left
          · intro w hSw
            try dsimp only at hSw
            go_simp
            try with_reducible rfl
          try simp only [Act.put, List.setIfInBounds_toArray, List.set_cons_zero, List.set_cons_succ]
          refine rg_gen (i := 13) (v := ?_) rfl (by kernel_rfl) (by kernel_rfl) (by kernel_rfl) (fun _ _ _ h => h) rfl (by rfl) ?_ (by assumption) ?_
          rotate_left
          · intro w hSw
            try dsimp only at hSw
            go_simp
            try with_reducible rfl
          try simp only [Act.put, List.setIfInBounds_toArray, List.set_cons_zero, List.set_cons_succ]
          refine rg_gen (i := 14) (v := ?_) rfl (by kernel_rfl) (by kernel_rfl) (by kernel_rfl) (fun _ _ _ h => h) rfl (by rfl) ?_ (by assumption) ?_
          rotate_left
          · intro w hSw
            try dsimp only at hSw
            go_simp
            try with_reducible rfl
          try simp only [Act.put, List.setIfInBounds_toArray, List.set_cons_zero, List.set_cons_succ]
          refine rg_gen (i := 15) (v := ?_) rfl (by kernel_rfl) (by kernel_rfl) (by kernel_rfl) (fun _ _ _ h => h) rfl (by rfl) ?_ (by assumption) ?_
          rotate_left
          · intro w hSw
            try dsimp only at hSw
            go_simp
            try with_reducible rfl
          try simp only [Act.put, List.setIfInBounds_toArray, List.set_cons_zero, List.set_cons_succ]
          refine rg_row (i := 16) rfl (by kernel_rfl) (by kernel_rfl) (by kernel_rfl) (fun _ _ _ _ h => h) rfl (by rfl) 71 (.tmp 41) rfl b (off + j * 72) a.cells rfl (fun W h => h.1) hu rfl (act_info HAW.out) (by assumption) ?_
          try simp only [Act.put, List.setIfInBounds_toArray, List.set_cons_zero, List.set_cons_succ]
          refine rg_one (i := 12) (by kernel_rfl) rfl (fun K hK => ?_)
          go_simp
          go_at_call 41
          have HLd := Lib.hid (HL.out.below (Below.refl _ _).drew)
          refine (lfrom_any _ _ _ rs _ 0 _ HLd.out hwl).mono ?_
          rintro e w2 ⟨⟨v2, rfl, hO2⟩, hb2⟩
          rw [from_zero] at hO2
          have hB2 := bw_call HB.out.drew hb2
          have HL2 := Lib.hid (HLd.out.below hb2)
          go_wp2_with fail
          refine hK.out _ _ (KEEP.out _ hB2) (fun hHeld2 => ?_)
          clear hK K
          try simp only [Act.put, List.setIfInBounds_toArray, List.set_cons_zero, List.set_cons_succ]
          refine rg_one (i := 17) (by kernel_rfl) rfl (fun K hK => ?_)
          go_simp
          go_at_call 51
          refine (ltime_any _ v2 rs a.kd a.lt a.body a.ld a.r _ hO2 HL.out.wf (chain_time HC.out) (by omega)).mono ?_
          rintro e w3 ⟨rfl, hb3⟩
          have hB3 := bw_call hB2 hb3
          have HL3 := Lib.hid (HL2.out.below hb3)
          have hwl3 := HL3.out.lts.1
          go_wp2_with fail
          refine hK.out _ _ (KEEP.out _ hB3) (fun hHeld3 => ?_)
          clear hK K hO2 hb2 hb3 hB2
          try simp only [Act.put, List.setIfInBounds_toArray, List.set_cons_zero, List.set_cons_succ]
          refine rg_one (i := 18) (by kernel_rfl) rfl (fun K hK => ?_)
          go_simp
          go_at_call 50
          refine (add_any (w.heap.size + 1) w.heap.size sv rs a.kd a.body (timeOf rs a.lt) _ HL3.out HAW.out.kd (timeOf_ok HAW.out.lt (chain_time HC.out)) HAW.out.body (HR.out.below hB3 HR.out.1) (by omega) hwl3).mono ?_
          rintro e w4 ⟨rfl, ⟨sv4, hL4, -⟩, hT4⟩
          have hB4 := hT4.below hB3 (Nat.le_refl _) (fun k hk => by have := own_blk HL3.out.own k hk; omega) hB3.size
          go_wp2_with fail
          refine hK.out _ _ (KEEP.out _ hB4) (fun hHeld4 => ?_)
          clear hK K
          refine wpAnyH_done (by kernel_rfl) ?_ _
          have HL4 := Lib.hid hL4
          have HB4 := Lib.hid hB4
          have hn4 := next_length rs a.kd (timeOf rs a.lt) a.body
          clear hHeld hHeld2 hHeld3 hHeld4 hL4 hT4 hB3 hB4 hwl hwl3 hu
          go_wp2_with fail
          go_roundw
          case rel => exact ⟨j + 1, sv4, _, by omega, by omega, by go_num, HC.out.next, HL4, HB4⟩
          case measure => simp [intOf]; omega
        · rw [hld] at c3
          clear hld
          go_wp2_with fail
          go_roundw
          case rel => exact ⟨j + 1, sv, rs, by omega, by omega, by go_num, HC, HL, HB⟩
          case measure => simp [intOf]; omega
      · have hd1 : decide ((j : Int) < 40) = false := decide_eq_false (by omega)
        go_wp2_with fail
        go_ret
        exact ⟨sv, rs, rfl, HL.out, HC.out, by omega, HB.out⟩
    · have hd0 : decide ((j : Int) < m) = false := decide_eq_false (by omega)
      go_wp2_with fail
      go_ret
      exact ⟨sv, rs, rfl, HL.out, HC.out, by omega, HB.out⟩
end Go.Proofs.YtckfdmkjeocadaaDoor
