/- cavalcadelaw19.time, cavalcaderef19.Same: what the calls do. -/
import Derived.Test.YtckfdmkjeocadaaDoorOrderNone
namespace Go.Proofs.YtckfdmkjeocadaaDoor
open Go.RowKit
set_option maxHeartbeats 2000000
set_option maxRecDepth 4000
def timeOf (rs : List RC) (lt : Int) : Int := match rs[rs.length - 1]? with | none => lt | some r => if lt < -1000 ∨ 1000 < lt then lt else r.time + lt
theorem ltime_any (base : Nat) (v : Value) (rs : List RC) (kd lt : Int) (b : ByteArray) (ld : Bool) (ra : RC) (w : World) (hO : w.ownsRow base 61 68 v rs.length (rcells rs)) (hwf : ∀ r ∈ rs, r.wf) (hg : ∀ r ∈ rs, 0 ≤ r.time ∧ r.time ≤ 1099511627776) (hsm : rs.length ≤ 1000) :
    Calls Tryd.prog 51 #[v, .agg (actQ kd lt b ld ra).toArray] w fun e w' => e = .returned (.int .i64 (timeOf rs lt)) ∧ Below w.heap.size w w' := by
  have hg0 := heap_alloc_new w (.cells (actQ kd lt b ld ra).toArray 71)
  have HB0 := Lib.hid (bw_alloc (Below.refl w.heap.size w) (.cells (actQ kd lt b ld ra).toArray 71))
  have c1 : (w.alloc (.cells (actQ kd lt b ld ra).toArray 71)).cell? ⟨w.heap.size, 1, none⟩ = some (.int .i64 lt) := by rw [cell_of_row _ w.heap.size 1 _ _ _ hg0]; rfl
  obtain ⟨tt, htt⟩ : ∃ x, x = timeOf rs lt := ⟨_, rfl⟩
  rw [← htt]
  have HT := Lib.hid htt
  clear htt
  rcases own_rcs hO with ⟨rfl, rfl⟩ | ⟨g, c, rfl, hrow, _, _, _⟩
  · have HQ : Hid (tt = lt) := show _ = _ from HT.out
    clear hg0 hO
    go_enter Tryd.func51, Tryd.ntmps51
    go_wp2_with fail
    go_ret
    exact ⟨by rw [HQ.out]; rfl, HB0.out⟩
  · by_cases hm0 : rs.length = 0
    · have hrs : rs = [] := List.length_eq_zero_iff.1 hm0
      subst hrs
      have HQ : Hid (tt = lt) := show _ = _ from HT.out
      clear hg0 hO hrow hm0
      go_enter Tryd.func51, Tryd.ntmps51
      go_wp2_with fail
      go_ret
      exact ⟨by rw [HQ.out]; rfl, HB0.out⟩
    · obtain ⟨m, hm⟩ : ∃ m, m = rs.length := ⟨_, rfl⟩
      obtain ⟨n, hn2⟩ : ∃ n, m = n + 1 := ⟨m - 1, by omega⟩
      have hnl : n < rs.length := by omega
      obtain ⟨cur, fr, hgc, hat⟩ := hrow.one hwf n hnl
      obtain ⟨r, hr⟩ : ∃ r, r = rs[n]'hnl := ⟨_, rfl⟩
      rw [← hr] at hat
      have htm := hg r (by rw [hr]; exact List.getElem_mem hnl)
      have HQ0 : Hid (tt = if lt < -1000 ∨ 1000 < lt then lt else r.time + lt) := show _ = _ by
        rw [HT.out, timeOf, show rs.length - 1 = n by omega, List.getElem?_eq_getElem hnl, hr]
      have hgk := (Below.heap_alloc w (.cells (actQ kd lt b ld ra).toArray 71) _ (block_lt hgc)).trans hgc
      have ct : (w.alloc (.cells (actQ kd lt b ld ra).toArray 71)).cell? ⟨g, n * 68 + 2, none⟩ = some (.int .i64 r.time) := by
        rw [cell_of_row _ g _ _ _ _ hgk, List.getElem?_toArray]
        have := hat 2 _ (show r.cells[2]? = some _ from rfl)
        rw [Nat.zero_add] at this
        exact this
      rw [← hm]
      have hb : ((m : Int) == 0) = false := by rw [beq_eq_false_iff_ne]; omega
      have e1 : IntKind.i64.wrap ((m : Int) - 1) = (n : Int) := by rw [show (m : Int) - 1 = n by omega]; exact IntWalk.i64_in _ (by omega)
      have f0 : (0 : Int) ≤ n := by omega
      have f1 : (n : Int) < m := by omega
      clear hO hrow hgc hat hr hg hwf hnl hm hn2 hsm hm0 hg0 hgk
      by_cases h1 : lt < -1000
      · have hd1 : decide (lt < -1000) = true := decide_eq_true h1
        have HQ : Hid (tt = lt) := show _ = _ by rw [HQ0.out, if_pos (.inl h1)]
        clear h1
        go_enter Tryd.func51, Tryd.ntmps51
        go_wp2_with fail
        go_ret
        exact ⟨by rw [HQ.out]; rfl, HB0.out⟩
      · have hd1 : decide (lt < -1000) = false := decide_eq_false h1
        by_cases h2 : 1000 < lt
        · have hd2 : decide (1000 < lt) = true := decide_eq_true h2
          have HQ : Hid (tt = lt) := show _ = _ by rw [HQ0.out, if_pos (.inr h2)]
          clear h1 h2
          go_enter Tryd.func51, Tryd.ntmps51
          go_wp2_with fail
          go_ret
          exact ⟨by rw [HQ.out]; rfl, HB0.out⟩
        · have hd2 : decide (1000 < lt) = false := decide_eq_false h2
          have HQ : Hid (tt = r.time + lt) := show _ = _ by rw [HQ0.out, if_neg (by omega)]
          have e2 : IntKind.i64.wrap (r.time + lt) = r.time + lt := IntWalk.i64_in _ (by omega)
          clear h1 h2 htm
          go_enter Tryd.func51, Tryd.ntmps51
          go_wp2_with fail
          go_quiet (fail)
          have hb4 := bw_drewN HB0.out nq
          have HB4 := Lib.hid hb4
          go_wp2_with fail
          go_ret
          exact ⟨by rw [HQ.out]; rfl, HB4.out⟩
theorem same_any (b1 b2 : Nat) (v1 v2 : Value) (rs1 rs2 : List RC) (w : World) (h1 : w.ownsRow b1 61 68 v1 rs1.length (rcells rs1)) (h2 : w.ownsRow b2 61 68 v2 rs2.length (rcells rs2)) (hw1 : ∀ r ∈ rs1, r.wf) (hw2 : ∀ r ∈ rs2, r.wf) (hsm : rs1.length ≤ 1000) :
    Calls Tryd.prog 47 #[v1, v2] w fun e w' => e = .returned (.bool (decide (rs1 = rs2))) ∧ Below w.heap.size w w' := by
  obtain ⟨q1, c1, rfl, hq1⟩ := own_rcs2 h1
  obtain ⟨q2, c2, rfl, hq2⟩ := own_rcs2 h2
  have HQ1 := Lib.hid hq1
  have HQ2 := Lib.hid hq2
  have HW1 := Lib.hid hw1
  have HW2 := Lib.hid hw2
  obtain ⟨res, hres⟩ : ∃ x, x = decide (rs1 = rs2) := ⟨_, rfl⟩
  rw [← hres]
  have HRES := Lib.hid hres
  obtain ⟨m, hm⟩ : ∃ m, m = rs1.length := ⟨_, rfl⟩
  obtain ⟨k, hk⟩ : ∃ k, k = rs2.length := ⟨_, rfl⟩
  rw [← hm, ← hk]
  rw [← hm] at hsm
  have HM := Lib.hid hm
  have HK := Lib.hid hk
  clear h1 h2 hq1 hq2 hw1 hw2 hres hm hk
  by_cases hmk : m = k
  · subst hmk
    go_enter Tryd.func47, Tryd.ntmps47
    go_wp2_with fail
    go_loopw [5] (fun i wr => ∃ j : Nat, j ≤ m ∧ i = .int .i64 j ∧ Hid (∀ x, x < j → rs1[x]? = rs2[x]?) ∧ Hid (Below w.heap.size w wr)) (fun i _ => m - (intOf i).toNat)
    case atStart => exact ⟨0, by omega, rfl, show ∀ x, _ from fun x hx => absurd hx (by omega), Below.refl _ _⟩
    case round =>
      obtain ⟨j, hj, rfl, HE, HB⟩ := hrel
      by_cases hlt : j < m
      · have hl1 : j < rs1.length := by have := HM.out; omega
        have hl2 : j < rs2.length := by have := HK.out; omega
        rcases HQ1.out with h | ⟨g1, rfl, hr1, -, -, -⟩
        · exact absurd hl1 (by rw [h]; simp)
        rcases HQ2.out with h | ⟨g2, rfl, hr2, -, -, -⟩
        · exact absurd hl2 (by rw [h]; simp)
        obtain ⟨cur1, fr1, hg1, hat1⟩ := hr1.one HW1.out j hl1
        obtain ⟨cur2, fr2, hg2, hat2⟩ := hr2.one HW2.out j hl2
        obtain ⟨r1, hrr1⟩ : ∃ r, r = rs1[j]'hl1 := ⟨_, rfl⟩
        obtain ⟨r2, hrr2⟩ : ∃ r, r = rs2[j]'hl2 := ⟨_, rfl⟩
        rw [← hrr1] at hat1
        rw [← hrr2] at hat2
        have HRW1 : Hid r1.wf := show _ from by rw [hrr1]; exact HW1.out _ (List.getElem_mem hl1)
        have HRW2 : Hid r2.wf := show _ from by rw [hrr2]; exact HW2.out _ (List.getElem_mem hl2)
        have HRG1 : Hid (∀ n, (wr.drewN n).rangeAt g1 (j * 68) r1.cells) := show ∀ n, _ from fun n => range_row ((HB.out.block _ (block_lt hg1)).trans hg1) (fun x v hv => by have := hat1 x v hv; rw [Nat.zero_add] at this; exact this)
        have HRG2 : Hid (∀ n, (wr.drewN n).rangeAt g2 (j * 68) r2.cells) := show ∀ n, _ from fun n => range_row ((HB.out.block _ (block_lt hg2)).trans hg2) (fun x v hv => by have := hat2 x v hv; rw [Nat.zero_add] at this; exact this)
        have HEQ : Hid (rs1[j]? = some r1 ∧ rs2[j]? = some r2) := show _ ∧ _ from ⟨by rw [List.getElem?_eq_getElem hl1, hrr1], by rw [List.getElem?_eq_getElem hl2, hrr2]⟩
        have f0 : (0 : Int) ≤ j := by omega
        have f1 : (j : Int) < m := by omega
        clear hr1 hr2 hg1 hg2 hat1 hat2 hrr1 hrr2 hl1 hl2
        go_wp2_with fail
        refine wp_region_class (fun W => ∃ n, W = wr.drewN n) (by kernel_rfl) (by kernel_rfl) ⟨1, rfl⟩ ?_
        refine wq_gen (v := ?_) (by kernel_rfl) ?_ ?_
        rotate_left
        · intro W hC
          go_simp
          try with_reducible rfl
        try simp only [Act.put, List.setIfInBounds_toArray, List.set_cons_zero, List.set_cons_succ]
        refine wq_gen (v := ?_) (by kernel_rfl) ?_ ?_
        rotate_left
        · intro W hC
          go_simp
          try with_reducible rfl
        try simp only [Act.put, List.setIfInBounds_toArray, List.set_cons_zero, List.set_cons_succ]
        refine wq_gen (v := ?_) (by kernel_rfl) ?_ ?_
        rotate_left
        · intro W hC
          go_simp
          try with_reducible rfl
        try simp only [Act.put, List.setIfInBounds_toArray, List.set_cons_zero, List.set_cons_succ]
        refine wq_load (by kernel_rfl) 61 (.tmp 19) rfl g1 (j * 68) r1.cells _ rfl (fun W hC => by obtain ⟨n, rfl⟩ := hC; exact HRG1.out n) Tryd.underlying61 rfl (rc_info HRW1.out) ?_
        try simp only [Act.put, List.setIfInBounds_toArray, List.set_cons_zero, List.set_cons_succ]
        refine wq_gen (v := ?_) (by kernel_rfl) ?_ ?_
        rotate_left
        · intro W hC
          go_simp
          try with_reducible rfl
        try simp only [Act.put, List.setIfInBounds_toArray, List.set_cons_zero, List.set_cons_succ]
        refine wq_gen (v := ?_) (by kernel_rfl) ?_ ?_
        rotate_left
        · intro W hC
          go_simp
          try with_reducible rfl
        try simp only [Act.put, List.setIfInBounds_toArray, List.set_cons_zero, List.set_cons_succ]
        refine wq_gen (v := ?_) (by kernel_rfl) ?_ ?_
        rotate_left
        · intro W hC
          go_simp
          try with_reducible rfl
        try simp only [Act.put, List.setIfInBounds_toArray, List.set_cons_zero, List.set_cons_succ]
        refine wq_load (by kernel_rfl) 61 (.tmp 23) rfl g2 (j * 68) r2.cells _ rfl (fun W hC => by obtain ⟨n, rfl⟩ := hC; exact HRG2.out n) Tryd.underlying61 rfl (rc_info HRW2.out) ?_
        try simp only [Act.put, List.setIfInBounds_toArray, List.set_cons_zero, List.set_cons_succ]
        by_cases hr12 : r1 = r2
        · refine wq_bin (by kernel_rfl) .neq 61 61 (.tmp 20) (.tmp 24) rfl (.agg r1.cells.toArray) (.agg r2.cells.toArray) (.bool false) rfl rfl (rc_eqG _ _ _ _ _) (fun w => (rc_neq HRW1.out HRW2.out w).trans (by rw [decide_eq_true hr12]; rfl)) ?_
          try simp only [Act.put, List.setIfInBounds_toArray, List.set_cons_zero, List.set_cons_succ]
          refine wpQuiet_nil ?_
          rintro w6 ⟨nq, rfl⟩
          have HB6 := Lib.hid (bw_drewN HB.out nq)
          go_wp2_with fail
          go_roundw
          case rel => exact ⟨j + 1, by omega, by go_num, show ∀ x, _ from fun x hx => (Nat.lt_succ_iff_lt_or_eq.1 hx).elim (HE.out x) (fun h => by rw [h, HEQ.out.1, HEQ.out.2, hr12]), HB6⟩
          case measure => simp [intOf]; omega
        · refine wq_bin (by kernel_rfl) .neq 61 61 (.tmp 20) (.tmp 24) rfl (.agg r1.cells.toArray) (.agg r2.cells.toArray) (.bool true) rfl rfl (rc_eqG _ _ _ _ _) (fun w => (rc_neq HRW1.out HRW2.out w).trans (by rw [decide_eq_false hr12]; rfl)) ?_
          try simp only [Act.put, List.setIfInBounds_toArray, List.set_cons_zero, List.set_cons_succ]
          have HF : Hid (res = false) := show _ = _ by
            rw [HRES.out]
            refine decide_eq_false (fun h => hr12 ?_)
            have h3 := HEQ.out
            rw [h] at h3
            exact Option.some.inj (h3.1.symm.trans h3.2)
          refine wpQuiet_nil ?_
          rintro w6 ⟨nq, rfl⟩
          have HB6 := Lib.hid (bw_drewN HB.out nq)
          go_wp2_with fail
          go_ret
          exact ⟨by rw [HF.out]; rfl, HB6.out⟩
      · obtain rfl : j = m := by omega
        have HF : Hid (res = true) := show _ = _ by
          rw [HRES.out]
          refine decide_eq_true (List.ext_getElem? fun x => ?_)
          by_cases hx : x < j
          · exact HE.out x hx
          · rw [List.getElem?_eq_none (by have := HM.out; omega), List.getElem?_eq_none (by have := HK.out; omega)]
        go_wp2_with fail
        go_ret
        exact ⟨by rw [HF.out]; rfl, HB.out⟩
  · have HF : Hid (res = false) := show _ = _ by
      rw [HRES.out]
      exact decide_eq_false (fun h => hmk (by rw [HM.out, HK.out, h]))
    have hd : ((m : Int) != (k : Int)) = true := by rw [bne_iff_ne]; omega
    clear hmk
    go_enter Tryd.func47, Tryd.ntmps47
    go_wp2_with fail
    go_ret
    exact ⟨by rw [HF.out]; rfl, Below.refl _ _⟩
end Go.Proofs.YtckfdmkjeocadaaDoor
