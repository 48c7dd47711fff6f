/- What the law OrderDoes holds; cavalcaderef19.Same of a row's end. -/
import Derived.Test.YtckfdmkjeocadaaDoorRMake
import Derived.Test.YtckfdmkjeocadaaDoorMade
namespace Go.Proofs.YtckfdmkjeocadaaDoor
open Go.RowKit
set_option maxHeartbeats 4000000
set_option maxRecDepth 4000
/-- what the law holds: its log, the reference's row, blocks of its own -/
structure DoAt (w W : World) (sv xv : Value) (rl rx : List RC) (E : List (Nat × Obj)) : Prop where
  b : Below w.heap.size w W
  lg : LgAt W (w.heap.size + 1) w.heap.size sv rl (cnt rl)
  own : W.ownsRow w.heap.size 61 68 xv rx.length (rcells rx)
  ap : ∀ k, xv.ownBlock = some k → k ≠ w.heap.size ∧ sv.ownBlock ≠ some k
  ex : ∀ x ∈ E, W.heap[x.1]? = some x.2 ∧ w.heap.size < x.1 ∧ sv.ownBlock ≠ some x.1 ∧ xv.ownBlock ≠ some x.1
  nd : E.Pairwise (fun x y => x.1 ≠ y.1)
section
variable {w W W' : World} {sv xv sv' xv' : Value} {rl rx rl' : List RC} {E : List (Nat × Obj)}
theorem DoAt.next (h : DoAt w W sv xv rl rx E) (hb : Below W.heap.size W W') : DoAt w W' sv xv rl rx E :=
  ⟨bw_call h.b hb, h.lg.below hb, own_below h.own hb (Nat.le_refl _), h.ap, fun x hx => ⟨keep_row hb (h.ex x hx).1, (h.ex x hx).2⟩, h.nd⟩
theorem DoAt.turn (h : DoAt w W sv xv rl rx E) (hL : LgAt W' (w.heap.size + 1) w.heap.size sv' rl' (cnt rl')) (hn : OwnNew W sv sv') (hT : LgTurn W W' w.heap.size sv) : DoAt w W' sv' xv rl' rx E := by
  refine ⟨hT.below h.b (Nat.le_refl _) (fun k hk => by have := own_blk h.lg.own k hk; omega) h.b.size, hL, own_other h.own (fun k hk => hT.block k (h.own.lt k hk).2 (h.ap k hk).1 (fun e => (h.ap k hk).2 e.symm)), fun k hk => ⟨(h.ap k hk).1, fun e => ?_⟩, fun x hx => ?_, h.nd⟩
  · rcases hn k e with h2 | h2
    · exact (h.ap k hk).2 h2
    · have := (h.own.lt k hk).2; omega
  · obtain ⟨h1, h2, h3, h4⟩ := h.ex x hx
    refine ⟨(hT.block _ (block_lt h1) (by omega) (fun e => h3 e.symm)).trans h1, h2, fun e => ?_, h4⟩
    rcases hn _ e with h5 | h5
    · exact h3 h5
    · have := block_lt h1; omega
theorem DoAt.fresh (h : DoAt w W sv xv rl rx E) (cs : Array Value) (t : TypeId) : DoAt w (W.alloc (.cells cs t)) sv xv rl rx ((W.heap.size, .cells cs t (0, 0)) :: E) := by
  have h1 := h.next (bw_alloc (Below.refl _ _) (.cells cs t))
  refine ⟨h1.b, h1.lg, h1.own, h1.ap, fun x hx => ?_, List.pairwise_cons.2 ⟨fun x hx => fun e => ?_, h.nd⟩⟩
  · rcases List.mem_cons.1 hx with rfl | hx
    · exact ⟨heap_alloc_new _ _, h.lg.lts.1, fun e => by have := h.lg.lts.2 _ e; omega, fun e => by have := (h.own.lt _ e).2; omega⟩
    · exact h1.ex x hx
  · have := block_lt (h.ex x hx).1
    dsimp only at e
    omega
theorem DoAt.upd {b : Nat} {o o' : Obj} (h : DoAt w W sv xv rl rx ((b, o) :: E)) (hU : Upd W W' b o') : DoAt w W' sv xv rl rx ((b, o') :: E) := by
  obtain ⟨h1, h2, h3, h4⟩ := h.ex (b, o) (List.mem_cons_self ..)
  have h5 := List.pairwise_cons.1 h.nd
  refine ⟨hU.below h.b (Nat.le_of_lt h2), h.lg.other (hU.other _ (Nat.ne_of_lt h2)) (fun k hk => hU.other _ (fun e => h3 (by rw [← e]; exact hk))), own_other h.own (fun k hk => hU.other _ (fun e => h4 (by rw [← e]; exact hk))), h.ap, fun x hx => ?_, List.pairwise_cons.2 ⟨h5.1, h5.2⟩⟩
  rcases List.mem_cons.1 hx with rfl | hx
  · exact ⟨hU.at_, h2, h3, h4⟩
  · obtain ⟨k1, k2⟩ := h.ex x (List.mem_cons_of_mem _ hx)
    exact ⟨(hU.other _ (fun e => h5.1 x hx e.symm)).trans k1, k2⟩
theorem DoAt.app {r : RC} {n : Nat} (h : DoAt w W sv xv rl rx E) (hn : n = (rx ++ [r]).length) (ho : W'.ownsRow w.heap.size 61 68 xv' n (rcells rx ++ r.cells)) (hg : W.grownBy W' xv.ownBlock) (hw : OwnNew W xv xv') : DoAt w W' sv xv' rl (rx ++ [r]) E := by
  subst hn
  have hsl := h.lg.lts
  refine ⟨⟨hg.os.trans h.b.os, hg.tape.trans h.b.tape, hg.output.trans h.b.output, Nat.le_trans h.b.size hg.size, fun k hk => (hg.block k (Nat.lt_of_lt_of_le hk h.b.size) (fun e => by have := own_blk h.own k e.symm; omega)).trans (h.b.block k hk)⟩,
    h.lg.other (hg.block _ hsl.1 (fun e => (h.ap _ e.symm).1 rfl)) (fun k hk => hg.block _ (hsl.2 k hk) (fun e => (h.ap _ e.symm).2 hk)), by rw [rcells_app, rcells_one]; exact ho, fun k hk => ?_, fun x hx => ?_, h.nd⟩
  · rcases hw k hk with h2 | h2
    · exact h.ap k h2
    · exact ⟨by omega, fun e => by have := hsl.2 k e; omega⟩
  · obtain ⟨h1, h2, h3, h4⟩ := h.ex x hx
    refine ⟨(hg.block _ (block_lt h1) (fun e => h4 e.symm)).trans h1, h2, h3, fun e => ?_⟩
    rcases hw _ e with h5 | h5
    · exact h4 h5
    · have := block_lt h1; omega
theorem DoAt.drop {x : Nat × Obj} (h : DoAt w W sv xv rl rx (x :: E)) : DoAt w W sv xv rl rx E := ⟨h.b, h.lg, h.own, h.ap, fun y hy => h.ex y (List.mem_cons_of_mem _ hy), (List.pairwise_cons.1 h.nd).2⟩
theorem DoAt.none (h : DoAt w W sv xv rl rx E) : DoAt w W sv xv rl rx [] := ⟨h.b, h.lg, h.own, h.ap, fun y hy => absurd hy (by simp), List.Pairwise.nil⟩
theorem DoAt.e0 {b : Nat} {o : Obj} (h : DoAt w W sv xv rl rx ((b, o) :: E)) : W.heap[b]? = some o := (h.ex _ (List.mem_cons_self ..)).1
theorem DoAt.e1 {x : Nat × Obj} {b : Nat} {o : Obj} (h : DoAt w W sv xv rl rx (x :: (b, o) :: E)) : W.heap[b]? = some o := (h.ex _ (List.mem_cons_of_mem _ (List.mem_cons_self ..))).1
theorem DoAt.e2 {x y : Nat × Obj} {b : Nat} {o : Obj} (h : DoAt w W sv xv rl rx (x :: y :: (b, o) :: E)) : W.heap[b]? = some o := (h.ex _ (List.mem_cons_of_mem _ (List.mem_cons_of_mem _ (List.mem_cons_self ..)))).1
end
theorem RcsAt.drop {W : World} {g : Nat} {rs : List RC} (h : RcsAt W g 0 rs) (hw : ∀ r ∈ rs, r.wf) (m : Nat) : RcsAt W g (m * 68) (rs.drop m) := by
  obtain ⟨cur, fr, h1, h2⟩ := h
  refine ⟨cur, fr, h1, fun j u hj => ?_⟩
  rw [rcells_drop _ _ hw, List.getElem?_drop] at hj
  have := h2 _ _ hj
  rw [Nat.zero_add] at this
  exact this
theorem same2_any (b1 : Nat) (v1 : Value) (q2 : Option Addr) (c2 : Nat) (rs1 rs2 : List RC) (w : World) (h1 : w.ownsRow b1 61 68 v1 rs1.length (rcells rs1)) (hq2 : rs2 = [] ∨ ∃ g off, q2 = some ⟨g, off, none⟩ ∧ RcsAt w g off rs2) (hw1 : ∀ r ∈ rs1, r.wf) (hw2 : ∀ r ∈ rs2, r.wf) (hsm : rs1.length ≤ 1000) :
    Calls Tryd.prog 47 #[v1, .slice q2 rs2.length c2] w fun e w' => e = .returned (.bool (decide (rs1 = rs2))) ∧ Below w.heap.size w w' := by
  obtain ⟨q1, c1, rfl, hq1⟩ := own_rcs2 h1
  have HQ1 := Lib.hid hq1
  have HQ2 := Lib.hid hq2
  have HW1 := Lib.hid hw1
  have HW2 := Lib.hid hw2
  obtain ⟨res, hres⟩ : ∃ x, x = decide (rs1 = rs2) := ⟨_, rfl⟩
  rw [← hres]
  have HRES := Lib.hid hres
  obtain ⟨m, hm⟩ : ∃ m, m = rs1.length := ⟨_, rfl⟩
  obtain ⟨k, hk⟩ : ∃ k, k = rs2.length := ⟨_, rfl⟩
  rw [← hm, ← hk]
  rw [← hm] at hsm
  have HM := Lib.hid hm
  have HK := Lib.hid hk
  clear h1 hq1 hq2 hw1 hw2 hres hm hk
  by_cases hmk : m = k
  · subst hmk
    go_enter Tryd.func47, Tryd.ntmps47
    go_wp2_with fail
    go_loopw [5] (fun i wr => ∃ j : Nat, j ≤ m ∧ i = .int .i64 j ∧ Hid (∀ x, x < j → rs1[x]? = rs2[x]?) ∧ Hid (Below w.heap.size w wr)) (fun i _ => m - (intOf i).toNat)
    case atStart => exact ⟨0, by omega, rfl, show ∀ x, _ from fun x hx => absurd hx (by omega), Below.refl _ _⟩
    case round =>
      obtain ⟨j, hj, rfl, HE, HB⟩ := hrel
      by_cases hlt : j < m
      · have hl1 : j < rs1.length := by have := HM.out; omega
        have hl2 : j < rs2.length := by have := HK.out; omega
        rcases HQ1.out with h | ⟨g1, rfl, hr1, -, -, -⟩
        · exact absurd hl1 (by rw [h]; simp)
        rcases HQ2.out with h | ⟨g2, o2, rfl, hr2⟩
        · exact absurd hl2 (by rw [h]; simp)
        obtain ⟨cur1, fr1, hg1, hat1⟩ := hr1.one HW1.out j hl1
        obtain ⟨cur2, fr2, hg2, hat2⟩ := hr2.one HW2.out j hl2
        obtain ⟨r1, hrr1⟩ : ∃ r, r = rs1[j]'hl1 := ⟨_, rfl⟩
        obtain ⟨r2, hrr2⟩ : ∃ r, r = rs2[j]'hl2 := ⟨_, rfl⟩
        rw [← hrr1] at hat1
        rw [← hrr2] at hat2
        have HRW1 : Hid r1.wf := show _ from by rw [hrr1]; exact HW1.out _ (List.getElem_mem hl1)
        have HRW2 : Hid r2.wf := show _ from by rw [hrr2]; exact HW2.out _ (List.getElem_mem hl2)
        have HRG1 : Hid (∀ n, (wr.drewN n).rangeAt g1 (j * 68) r1.cells) := show ∀ n, _ from fun n => range_row ((HB.out.block _ (block_lt hg1)).trans hg1) (fun x v hv => by have := hat1 x v hv; rw [Nat.zero_add] at this; exact this)
        have HRG2 : Hid (∀ n, (wr.drewN n).rangeAt g2 (o2 + j * 68) r2.cells) := show ∀ n, _ from fun n => range_row ((HB.out.block _ (block_lt hg2)).trans hg2) hat2
        have HEQ : Hid (rs1[j]? = some r1 ∧ rs2[j]? = some r2) := show _ ∧ _ from ⟨by rw [List.getElem?_eq_getElem hl1, hrr1], by rw [List.getElem?_eq_getElem hl2, hrr2]⟩
        have f0 : (0 : Int) ≤ j := by omega
        have f1 : (j : Int) < m := by omega
        clear hr1 hr2 hg1 hg2 hat1 hat2 hrr1 hrr2 hl1 hl2
        go_wp2_with fail
        refine wp_region_class (fun W => ∃ n, W = wr.drewN n) (by kernel_rfl) (by kernel_rfl) ⟨1, rfl⟩ ?_
        refine wq_gen (v := ?_) (by kernel_rfl) ?_ ?_
        rotate_left
        · intro W hC
          go_simp
          try with_reducible rfl
        try simp only [Act.put, List.setIfInBounds_toArray, List.set_cons_zero, List.set_cons_succ]
        refine wq_gen (v := ?_) (by kernel_rfl) ?_ ?_
        rotate_left
        · intro W hC
          go_simp
          try with_reducible rfl
        try simp only [Act.put, List.setIfInBounds_toArray, List.set_cons_zero, List.set_cons_succ]
        refine wq_gen (v := ?_) (by kernel_rfl) ?_ ?_
        rotate_left
        · intro W hC
          go_simp
          try with_reducible rfl
        try simp only [Act.put, List.setIfInBounds_toArray, List.set_cons_zero, List.set_cons_succ]
        refine wq_load (by kernel_rfl) 61 (.tmp 19) rfl g1 (j * 68) r1.cells _ rfl (fun W hC => by obtain ⟨n, rfl⟩ := hC; exact HRG1.out n) Tryd.underlying61 rfl (rc_info HRW1.out) ?_
        try simp only [Act.put, List.setIfInBounds_toArray, List.set_cons_zero, List.set_cons_succ]
        refine wq_gen (v := ?_) (by kernel_rfl) ?_ ?_
        rotate_left
        · intro W hC
          go_simp
          try with_reducible rfl
        try simp only [Act.put, List.setIfInBounds_toArray, List.set_cons_zero, List.set_cons_succ]
        refine wq_gen (v := ?_) (by kernel_rfl) ?_ ?_
        rotate_left
        · intro W hC
          go_simp
          try with_reducible rfl
        try simp only [Act.put, List.setIfInBounds_toArray, List.set_cons_zero, List.set_cons_succ]
        refine wq_gen (v := ?_) (by kernel_rfl) ?_ ?_
        rotate_left
        · intro W hC
          go_simp
          try with_reducible rfl
        try simp only [Act.put, List.setIfInBounds_toArray, List.set_cons_zero, List.set_cons_succ]
        refine wq_load (by kernel_rfl) 61 (.tmp 23) rfl g2 (o2 + j * 68) r2.cells _ rfl (fun W hC => by obtain ⟨n, rfl⟩ := hC; exact HRG2.out n) Tryd.underlying61 rfl (rc_info HRW2.out) ?_
        try simp only [Act.put, List.setIfInBounds_toArray, List.set_cons_zero, List.set_cons_succ]
        by_cases hr12 : r1 = r2
        · refine wq_bin (by kernel_rfl) .neq 61 61 (.tmp 20) (.tmp 24) rfl (.agg r1.cells.toArray) (.agg r2.cells.toArray) (.bool false) rfl rfl (rc_eqG _ _ _ _ _) (fun w => (rc_neq HRW1.out HRW2.out w).trans (by rw [decide_eq_true hr12]; rfl)) ?_
          try simp only [Act.put, List.setIfInBounds_toArray, List.set_cons_zero, List.set_cons_succ]
          refine wpQuiet_nil ?_
          rintro w6 ⟨nq, rfl⟩
          have HB6 := Lib.hid (bw_drewN HB.out nq)
          go_wp2_with fail
          go_roundw
          case rel => exact ⟨j + 1, by omega, by go_num, show ∀ x, _ from fun x hx => (Nat.lt_succ_iff_lt_or_eq.1 hx).elim (HE.out x) (fun h => by rw [h, HEQ.out.1, HEQ.out.2, hr12]), HB6⟩
          case measure => simp [intOf]; omega
        · refine wq_bin (by kernel_rfl) .neq 61 61 (.tmp 20) (.tmp 24) rfl (.agg r1.cells.toArray) (.agg r2.cells.toArray) (.bool true) rfl rfl (rc_eqG _ _ _ _ _) (fun w => (rc_neq HRW1.out HRW2.out w).trans (by rw [decide_eq_false hr12]; rfl)) ?_
          try simp only [Act.put, List.setIfInBounds_toArray, List.set_cons_zero, List.set_cons_succ]
          have HF : Hid (res = false) := show _ = _ by
            rw [HRES.out]
            refine decide_eq_false (fun h => hr12 ?_)
            have h3 := HEQ.out
            rw [h] at h3
            exact Option.some.inj (h3.1.symm.trans h3.2)
          refine wpQuiet_nil ?_
          rintro w6 ⟨nq, rfl⟩
          have HB6 := Lib.hid (bw_drewN HB.out nq)
          go_wp2_with fail
          go_ret
          exact ⟨by rw [HF.out]; rfl, HB6.out⟩
      · obtain rfl : j = m := by omega
        have HF : Hid (res = true) := show _ = _ by
          rw [HRES.out]
          refine decide_eq_true (List.ext_getElem? fun x => ?_)
          by_cases hx : x < j
          · exact HE.out x hx
          · rw [List.getElem?_eq_none (by have := HM.out; omega), List.getElem?_eq_none (by have := HK.out; omega)]
        go_wp2_with fail
        go_ret
        exact ⟨by rw [HF.out]; rfl, HB.out⟩
  · have HF : Hid (res = false) := show _ = _ by
      rw [HRES.out]
      exact decide_eq_false (fun h => hmk (by rw [HM.out, HK.out, h]))
    have hd : ((m : Int) != (k : Int)) = true := by rw [bne_iff_ne]; omega
    clear hmk
    go_enter Tryd.func47, Tryd.ntmps47
    go_wp2_with fail
    go_ret
    exact ⟨by rw [HF.out]; rfl, Below.refl _ _⟩
end Go.Proofs.YtckfdmkjeocadaaDoor
