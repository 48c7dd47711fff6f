/- cavalcadelaw17.do: what the call does to a gate and the reference's gate. -/
import Derived.Test.YtckfdmkjeocadaaDoorAdmDo
namespace Go.Proofs.YtckfdmkjeocadaaDoor
open Go.RowKit
set_option maxHeartbeats 4000000
set_option maxRecDepth 4000
/-- what two gates hold -/
structure GS where
  n : Nat
  nx : List Int
  D : DataW Unit
  nxx : List Int
  lv : Value
  ts : List TX
/-- the two gates in memory, and blocks of the call's own -/
structure GX (w W : World) (g mb x nb : Nat) (fl : Int) (S : GS) (E : List (Nat × Obj)) : Prop where
  b : Below w.heap.size w W
  G : GAt W g fl S.nx mb S.n S.D
  D1 : One S.D
  X : XG W w.heap.size x fl S.nxx nb S.lv S.ts
  lo : w.heap.size ≤ g ∧ w.heap.size ≤ mb
  ap : (g ≠ x ∧ g ≠ nb ∧ mb ≠ x ∧ mb ≠ nb) ∧ S.lv.ownBlock ≠ some g ∧ S.lv.ownBlock ≠ some mb
  ex : ∀ e ∈ E, W.heap[e.1]? = some e.2 ∧ w.heap.size ≤ e.1 ∧ (e.1 ≠ g ∧ e.1 ≠ mb ∧ e.1 ≠ x ∧ e.1 ≠ nb) ∧ S.lv.ownBlock ≠ some e.1
  nd : E.Pairwise (fun x y => x.1 ≠ y.1)
section
variable {w W W' : World} {g mb x nb : Nat} {fl : Int} {S : GS} {E : List (Nat × Obj)}
theorem GAt.keep {n : Nat} {nx : List Int} {D : DataW Unit} (h : GAt W g fl nx mb n D) (hg : W'.heap[g]? = W.heap[g]?) (hm : W'.heap[mb]? = W.heap[mb]?) : GAt W' g fl nx mb n D := by
  obtain ⟨h1, h2, ⟨es, clock, h3, r⟩, h4⟩ := h
  exact ⟨h1, hg.trans h2, ⟨es, clock, hm.trans h3, r⟩, h4⟩
theorem XG.keep {base : Nat} {nx : List Int} {lv : Value} {ts : List TX} (h : XG W base x fl nx nb lv ts) (hx : W'.heap[x]? = W.heap[x]?) (hn : W'.heap[nb]? = W.heap[nb]?) (ho : ∀ k, lv.ownBlock = some k → W'.heap[k]? = W.heap[k]?) : XG W' base x fl nx nb lv ts :=
  ⟨h.len, hx.trans h.row, hn.trans h.nrow, own_other h.own ho, h.wf, h.ne, h.small, h.lo⟩
theorem GX.next (h : GX w W g mb x nb fl S E) (hb : Below W.heap.size W W') : GX w W' g mb x nb fl S E :=
  ⟨bw_call h.b hb, h.G.below hb, h.D1, h.X.below hb, h.lo, h.ap, fun e he => ⟨keep_row hb (h.ex e he).1, (h.ex e he).2⟩, h.nd⟩
theorem GX.gate {n' : Nat} {nx' : List Int} {D' : DataW Unit} (h : GX w W g mb x nb fl S E) (hT : Turned W W' g mb) (hG : GAt W' g fl nx' mb n' D') (hD : One D') : GX w W' g mb x nb fl { S with n := n', nx := nx', D := D' } E := by
  obtain ⟨l1, l2, l3⟩ := h.X.lts
  obtain ⟨⟨a1, a2, a3, a4⟩, a5, a6⟩ := h.ap
  refine ⟨h.b.trans (hT.below h.b.size h.lo.1 h.lo.2), hG, hD, h.X.keep (hT.block _ l1 (Ne.symm a1) (Ne.symm a3)) (hT.block _ l2 (Ne.symm a2) (Ne.symm a4)) (fun k hk => hT.block _ (l3 k hk) (fun e => a5 (by rw [← e]; exact hk)) (fun e => a6 (by rw [← e]; exact hk))), h.lo, h.ap, fun e he => ?_, h.nd⟩
  obtain ⟨e1, e2, e3, e4⟩ := h.ex e he
  exact ⟨(hT.block _ (block_lt e1) e3.1 e3.2.1).trans e1, e2, e3, e4⟩
theorem GX.xturn {nxx' : List Int} {lv' : Value} {ts' : List TX} (h : GX w W g mb x nb fl S E) (hT : XTurn W W' x nb S.lv) (hX : XG W' w.heap.size x fl nxx' nb lv' ts') (hn : OwnNew W S.lv lv') : GX w W' g mb x nb fl { S with nxx := nxx', lv := lv', ts := ts' } E := by
  obtain ⟨g1, g2⟩ := h.G.lts
  obtain ⟨⟨a1, a2, a3, a4⟩, a5, a6⟩ := h.ap
  have hlo := h.X.lo
  have hlv := fun k hk => own_blk h.X.own k hk
  refine ⟨h.b.trans ⟨hT.os, hT.tape, hT.output, hT.size, fun k hk => hT.block k (Nat.lt_of_lt_of_le hk h.b.size) (by omega) (by omega) (fun e => by have := hlv k e.symm; omega)⟩,
    h.G.keep (hT.block _ g1 a1 a2 (fun e => a5 e.symm)) (hT.block _ g2 a3 a4 (fun e => a6 e.symm)), h.D1, hX, h.lo, ⟨⟨a1, a2, a3, a4⟩, fun e => ?_, fun e => ?_⟩, fun e he => ?_, h.nd⟩
  · rcases hn _ e with h2 | h2
    · exact a5 h2
    · omega
  · rcases hn _ e with h2 | h2
    · exact a6 h2
    · omega
  · obtain ⟨e1, e2, e3, e4⟩ := h.ex e he
    refine ⟨(hT.block _ (block_lt e1) e3.2.2.1 e3.2.2.2 (fun e => e4 e.symm)).trans e1, e2, e3, fun e5 => ?_⟩
    rcases hn _ e5 with h2 | h2
    · exact e4 h2
    · have := block_lt e1; omega
theorem GX.fresh (h : GX w W g mb x nb fl S E) (cs : Array Value) (t : TypeId) : GX w (W.alloc (.cells cs t)) g mb x nb fl S ((W.heap.size, .cells cs t (0, 0)) :: E) := by
  have h1 := h.next (bw_alloc (Below.refl _ _) (.cells cs t))
  obtain ⟨l1, l2, l3⟩ := h.X.lts
  obtain ⟨g1, g2⟩ := h.G.lts
  refine ⟨h1.b, h1.G, h1.D1, h1.X, h1.lo, h1.ap, fun e he => ?_, List.pairwise_cons.2 ⟨fun y hy => fun e => ?_, h.nd⟩⟩
  · rcases List.mem_cons.1 he with rfl | he
    · exact ⟨heap_alloc_new _ _, h.b.size, ⟨by dsimp only; omega, by dsimp only; omega, by dsimp only; omega, by dsimp only; omega⟩, fun e => by have := l3 _ e; omega⟩
    · exact h1.ex e he
  · have := block_lt (h.ex y hy).1
    dsimp only at e
    omega
theorem GX.upd {b : Nat} {o o' : Obj} (h : GX w W g mb x nb fl S ((b, o) :: E)) (hU : Upd W W' b o') : GX w W' g mb x nb fl S ((b, o') :: E) := by
  obtain ⟨h1, h2, h3, h4⟩ := h.ex (b, o) (List.mem_cons_self ..)
  have h5 := List.pairwise_cons.1 h.nd
  refine ⟨hU.below h.b h2, h.G.keep (hU.other _ (Ne.symm h3.1)) (hU.other _ (Ne.symm h3.2.1)), h.D1, h.X.keep (hU.other _ (Ne.symm h3.2.2.1)) (hU.other _ (Ne.symm h3.2.2.2)) (fun k hk => hU.other _ (fun e => h4 (by rw [← e]; exact hk))), h.lo, h.ap, fun y hy => ?_, List.pairwise_cons.2 ⟨h5.1, h5.2⟩⟩
  rcases List.mem_cons.1 hy with rfl | hy
  · exact ⟨hU.at_, h2, h3, h4⟩
  · obtain ⟨k1, k2⟩ := h.ex y (List.mem_cons_of_mem _ hy)
    exact ⟨(hU.other _ (fun e => h5.1 y hy e.symm)).trans k1, k2⟩
theorem GX.drop {y : Nat × Obj} (h : GX w W g mb x nb fl S (y :: E)) : GX w W g mb x nb fl S E := ⟨h.b, h.G, h.D1, h.X, h.lo, h.ap, fun y hy => h.ex y (List.mem_cons_of_mem _ hy), (List.pairwise_cons.1 h.nd).2⟩
theorem GX.e0 {b : Nat} {o : Obj} (h : GX w W g mb x nb fl S ((b, o) :: E)) : W.heap[b]? = some o := (h.ex _ (List.mem_cons_self ..)).1
theorem GX.e1 {y : Nat × Obj} {b : Nat} {o : Obj} (h : GX w W g mb x nb fl S (y :: (b, o) :: E)) : W.heap[b]? = some o := (h.ex _ (List.mem_cons_of_mem _ (List.mem_cons_self ..))).1
theorem GX.e2 {y z : Nat × Obj} {b : Nat} {o : Obj} (h : GX w W g mb x nb fl S (y :: z :: (b, o) :: E)) : W.heap[b]? = some o := (h.ex _ (List.mem_cons_of_mem _ (List.mem_cons_of_mem _ (List.mem_cons_self ..)))).1
end
theorem txz_alloc (w : World) : (w.alloc (.cells Tryd.zeroCells25 25)).heap[w.heap.size]? = some (.cells zlTx.toArray 25 (0, 0)) := heap_alloc_new w _
/-- what a call of both leaves -/
def DoPost (w : World) (g mb x nb : Nat) (fl : Int) (S : GS) (E : List (Nat × Obj)) (e : Ending) (W' : World) : Prop := (∃ b : Bool, e = .returned (.bool b)) ∧ ∃ S' : GS, GX w W' g mb x nb fl S' E ∧ S'.n ≤ S.n + 1 ∧ S'.ts.length ≤ S.ts.length + 1
theorem do_any (kd : Int) (s : ByteArray) (t : TX) (w W : World) (g mb x nb : Nat) (fl : Int) (S : GS) (E : List (Nat × Obj)) (hX : GX w W g mb x nb fl S E) (ht : t.wf) (hs : s.size ≤ 140737488355328) (hR : RoundsAt w) (hn : S.n ≤ 100) (hl : S.ts.length ≤ 100) :
    Calls Tryd.prog 32 #[.pointer (some ⟨g, 0, none⟩), .pointer (some ⟨x, 0, none⟩), .agg (actC kd s t).toArray] W (DoPost w g mb x nb fl S E) := by
  have HT := Lib.hid ht
  have HR := Lib.hid hR
  have HX0 := Lib.hid (hX.fresh (actC kd s t).toArray 49)
  have hg0 := HX0.out.e0
  have KEEP : Hid (∀ V : World, V.heap[W.heap.size]? = some (.cells (actC kd s t).toArray 49 (0, 0)) → V.rangeAt W.heap.size 0 (actC kd s t)) := show ∀ V : World, _ from fun V h => range_row h id_at
  have c0 : (W.alloc (.cells (actC kd s t).toArray 49)).cell? ⟨W.heap.size, 0, none⟩ = some (.int .i64 kd) := by rw [cell_of_row _ W.heap.size 0 _ _ _ hg0]; rfl
  have c1 : (W.alloc (.cells (actC kd s t).toArray 49)).cell? ⟨W.heap.size, 1, none⟩ = some (.string s) := by rw [cell_of_row _ W.heap.size 1 _ _ _ hg0]; rfl
  have hu : Tryd.prog.underlying 49 = some _ := Tryd.underlying49
  clear ht hX hR hg0
  by_cases k0 : kd = 0
  · have d0 : (kd == 0) = true := by simpa using k0
    clear k0
    go_enter Tryd.func32, Tryd.ntmps32
    go_wp2_with fail
    generalize W.heap.size = b5 at *
    clear c0 c1
    refine (enter_any s g mb S.n fl S.nx S.D _ HX0.out.G HX0.out.D1 hs (HR.out.below HX0.out.b HR.out.1) (by unfold maxLen; omega)).mono ?_
    rintro e w2 ⟨rfl, htu, n', hn', hG2⟩
    have HX2 := Lib.hid (HX0.out.gate htu hG2 (HX0.out.D1.ent _ _ _))
    have hle : n' ≤ S.n + 1 := hn'
    clear htu hG2 hn'
    have hz2 := txz_alloc w2
    have HX2a := Lib.hid (HX2.out.fresh Tryd.zeroCells25 25)
    have HRW := Lib.hid (askR_wf fl S.nx S.D s)
    generalize (askR fl S.nx S.D s).1 = r1 at *
    generalize (askR fl S.nx S.D s).2 = q1 at *
    have HRL : Hid (r1.cells.length = zlTx.length) := show _ = _ from r1.cells_length HRW.out.by_ HRW.out.tag
    go_upto_region 6 with ((with_reducible refine wpList_store_whole rfl 25 (.tmp 7) (.tmp 26) rfl w2.heap.size r1.cells zlTx 25 rfl rfl hz2 HRL.out (tx_info HRW.out) (start_one _) ?_); intro w3 hU3; have HX3 := Lib.hid (HX2a.out.upd hU3.out); have c1 : w3.cell? ⟨b5, 1, none⟩ = some (.string s) := (by rw [cell_of_row w3 b5 1 _ _ _ HX3.out.e1]; rfl); clear hz2)
    go_wp2_with fail
    refine (xenter_any s w.heap.size x nb fl S.nxx S.lv S.ts _ HX3.out.X hs (by omega) HX3.out.b.size).mono ?_
    rintro e w4 ⟨⟨r2, q2, rfl, hr2⟩, ⟨lv', ts', hX4, hl4, hn4⟩, hT4⟩
    have HX4 := Lib.hid (HX3.out.xturn hT4 hX4 hn4)
    have HR2 := Lib.hid hr2
    have hle4 : ts'.length ≤ S.ts.length + 1 := hl4
    clear hX4 hl4 hn4 hT4 hr2
    have hz4 := txz_alloc w4
    have HX4a := Lib.hid (HX4.out.fresh Tryd.zeroCells25 25)
    have HRL2 : Hid (r2.cells.length = zlTx.length) := show _ = _ from r2.cells_length HR2.out.by_ HR2.out.tag
    clear c1 HX2 HX2a HX3 HX4
    generalize w2.heap.size = b7 at *
    by_cases hrr : r1 = r2
    · have HDD : Hid (decide (r1 = r2) = true) := show _ = _ from decide_eq_true hrr
      clear hrr
      go_wp2_with (first
        | ((with_reducible refine wpList_store_whole rfl 25 (.tmp 9) (.tmp 33) rfl w4.heap.size r2.cells zlTx 25 rfl rfl hz4 HRL2.out (tx_info HR2.out) (start_one _) ?_); intro w5 hU5; have HX5 := Lib.hid (HX4a.out.upd hU5.out); have hT9 := HX5.out.e0; have hT7 := HX5.out.e1; clear hz4)
        | (with_reducible refine wpList_load_rows_g (by kernel_rfl) 25 (.tmp 7) rfl b7 0 r1.cells r1.cells 25 (0, 0) _ rfl hT7 id_at Tryd.underlying25 rfl (tx_info HRW.out) ?_)
        | (with_reducible refine wpList_load_rows_g (by kernel_rfl) 25 (.tmp 9) rfl w4.heap.size 0 r2.cells r2.cells 25 (0, 0) _ rfl hT9 id_at Tryd.underlying25 rfl (tx_info HR2.out) ?_)
        | ((with_reducible refine wpList_bin_g (by kernel_rfl) .eql 25 25 (.tmp 35) (.tmp 36) rfl (.agg r1.cells.toArray) (.agg r2.cells.toArray) (.bool (decide (r1 = r2))) rfl rfl (tx_eqG _ _ _ _ _ _) (tx_eql HRW.out HR2.out _) ?_); rw [HDD.out]))
      go_ret
      exact ⟨⟨_, rfl⟩, _, HX5.out.drop.drop.drop, hle, hle4⟩
    · have HDD : Hid (decide (r1 = r2) = false) := show _ = _ from decide_eq_false hrr
      clear hrr
      go_wp2_with (first
        | ((with_reducible refine wpList_store_whole rfl 25 (.tmp 9) (.tmp 33) rfl w4.heap.size r2.cells zlTx 25 rfl rfl hz4 HRL2.out (tx_info HR2.out) (start_one _) ?_); intro w5 hU5; have HX5 := Lib.hid (HX4a.out.upd hU5.out); have hT9 := HX5.out.e0; have hT7 := HX5.out.e1; clear hz4)
        | (with_reducible refine wpList_load_rows_g (by kernel_rfl) 25 (.tmp 7) rfl b7 0 r1.cells r1.cells 25 (0, 0) _ rfl hT7 id_at Tryd.underlying25 rfl (tx_info HRW.out) ?_)
        | (with_reducible refine wpList_load_rows_g (by kernel_rfl) 25 (.tmp 9) rfl w4.heap.size 0 r2.cells r2.cells 25 (0, 0) _ rfl hT9 id_at Tryd.underlying25 rfl (tx_info HR2.out) ?_)
        | ((with_reducible refine wpList_bin_g (by kernel_rfl) .eql 25 25 (.tmp 35) (.tmp 36) rfl (.agg r1.cells.toArray) (.agg r2.cells.toArray) (.bool (decide (r1 = r2))) rfl rfl (tx_eqG _ _ _ _ _ _) (tx_eql HRW.out HR2.out _) ?_); rw [HDD.out]))
      go_ret
      exact ⟨⟨_, rfl⟩, _, HX5.out.drop.drop.drop, hle, hle4⟩
  · have d0 : (kd == 0) = false := by simpa using k0
    clear k0
    by_cases k1 : kd = 1
    · have d1 : (kd == 1) = true := by simpa using k1
      clear k1
      go_enter Tryd.func32, Tryd.ntmps32
      go_wp2_with fail
      generalize W.heap.size = b5 at *
      clear c0 c1
      refine (enter_any s g mb S.n fl S.nx S.D _ HX0.out.G HX0.out.D1 hs (HR.out.below HX0.out.b HR.out.1) (by unfold maxLen; omega)).mono ?_
      rintro e w2 ⟨rfl, htu, n', hn', hG2⟩
      have HX2 := Lib.hid (HX0.out.gate htu hG2 (HX0.out.D1.ent _ _ _))
      have hle : n' ≤ S.n + 1 := hn'
      clear htu hG2 hn'
      have hz2 := txz_alloc w2
      have HX2a := Lib.hid (HX2.out.fresh Tryd.zeroCells25 25)
      have HRW := Lib.hid (askR_wf fl S.nx S.D s)
      generalize (askR fl S.nx S.D s).1 = r1 at *
      generalize (askR fl S.nx S.D s).2 = q1 at *
      have HRL : Hid (r1.cells.length = zlTx.length) := show _ = _ from r1.cells_length HRW.out.by_ HRW.out.tag
      go_upto_region 6 with ((with_reducible refine wpList_store_whole rfl 25 (.tmp 7) (.tmp 26) rfl w2.heap.size r1.cells zlTx 25 rfl rfl hz2 HRL.out (tx_info HRW.out) (start_one _) ?_); intro w3 hU3; have HX3 := Lib.hid (HX2a.out.upd hU3.out); have c1 : w3.cell? ⟨b5, 1, none⟩ = some (.string s) := (by rw [cell_of_row w3 b5 1 _ _ _ HX3.out.e1]; rfl); clear hz2)
      go_wp2_with fail
      refine (xenter_any s w.heap.size x nb fl S.nxx S.lv S.ts _ HX3.out.X hs (by omega) HX3.out.b.size).mono ?_
      rintro e w4 ⟨⟨r2, q2, rfl, hr2⟩, ⟨lv', ts', hX4, hl4, hn4⟩, hT4⟩
      have HX4 := Lib.hid (HX3.out.xturn hT4 hX4 hn4)
      have HR2 := Lib.hid hr2
      have hle4 : ts'.length ≤ S.ts.length + 1 := hl4
      clear hX4 hl4 hn4 hT4 hr2
      have hz4 := txz_alloc w4
      have HX4a := Lib.hid (HX4.out.fresh Tryd.zeroCells25 25)
      have HRL2 : Hid (r2.cells.length = zlTx.length) := show _ = _ from r2.cells_length HR2.out.by_ HR2.out.tag
      clear c1 HX2 HX2a HX3 HX4
      generalize w2.heap.size = b7 at *
      by_cases hrr : r1 = r2
      · have HDD : Hid (decide (r1 = r2) = true) := show _ = _ from decide_eq_true hrr
        clear hrr
        go_wp2_with (first
          | ((with_reducible refine wpList_store_whole rfl 25 (.tmp 9) (.tmp 33) rfl w4.heap.size r2.cells zlTx 25 rfl rfl hz4 HRL2.out (tx_info HR2.out) (start_one _) ?_); intro w5 hU5; have HX5 := Lib.hid (HX4a.out.upd hU5.out); have hT9 := HX5.out.e0; have hT7 := HX5.out.e1; clear hz4)
          | (with_reducible refine wpList_load_rows_g (by kernel_rfl) 25 (.tmp 7) rfl b7 0 r1.cells r1.cells 25 (0, 0) _ rfl hT7 id_at Tryd.underlying25 rfl (tx_info HRW.out) ?_)
          | (with_reducible refine wpList_load_rows_g (by kernel_rfl) 25 (.tmp 9) rfl w4.heap.size 0 r2.cells r2.cells 25 (0, 0) _ rfl hT9 id_at Tryd.underlying25 rfl (tx_info HR2.out) ?_)
          | ((with_reducible refine wpList_bin_g (by kernel_rfl) .eql 25 25 (.tmp 35) (.tmp 36) rfl (.agg r1.cells.toArray) (.agg r2.cells.toArray) (.bool (decide (r1 = r2))) rfl rfl (tx_eqG _ _ _ _ _ _) (tx_eql HRW.out HR2.out _) ?_); rw [HDD.out]))
        go_ret
        exact ⟨⟨_, rfl⟩, _, HX5.out.drop.drop.drop, hle, hle4⟩
      · have HDD : Hid (decide (r1 = r2) = false) := show _ = _ from decide_eq_false hrr
        clear hrr
        go_wp2_with (first
          | ((with_reducible refine wpList_store_whole rfl 25 (.tmp 9) (.tmp 33) rfl w4.heap.size r2.cells zlTx 25 rfl rfl hz4 HRL2.out (tx_info HR2.out) (start_one _) ?_); intro w5 hU5; have HX5 := Lib.hid (HX4a.out.upd hU5.out); have hT9 := HX5.out.e0; have hT7 := HX5.out.e1; clear hz4)
          | (with_reducible refine wpList_load_rows_g (by kernel_rfl) 25 (.tmp 7) rfl b7 0 r1.cells r1.cells 25 (0, 0) _ rfl hT7 id_at Tryd.underlying25 rfl (tx_info HRW.out) ?_)
          | (with_reducible refine wpList_load_rows_g (by kernel_rfl) 25 (.tmp 9) rfl w4.heap.size 0 r2.cells r2.cells 25 (0, 0) _ rfl hT9 id_at Tryd.underlying25 rfl (tx_info HR2.out) ?_)
          | ((with_reducible refine wpList_bin_g (by kernel_rfl) .eql 25 25 (.tmp 35) (.tmp 36) rfl (.agg r1.cells.toArray) (.agg r2.cells.toArray) (.bool (decide (r1 = r2))) rfl rfl (tx_eqG _ _ _ _ _ _) (tx_eql HRW.out HR2.out _) ?_); rw [HDD.out]))
        go_ret
        exact ⟨⟨_, rfl⟩, _, HX5.out.drop.drop.drop, hle, hle4⟩
    · have d1 : (kd == 1) = false := by simpa using k1
      clear k1
      by_cases k2 : kd = 2
      · have d2 : (kd == 2) = true := by simpa using k2
        clear k2
        go_enter Tryd.func32, Tryd.ntmps32
        go_wp2_with fail
        generalize W.heap.size = b5 at *
        clear c0 c1
        refine (enter_any s g mb S.n fl S.nx S.D _ HX0.out.G HX0.out.D1 hs (HR.out.below HX0.out.b HR.out.1) (by unfold maxLen; omega)).mono ?_
        rintro e w2 ⟨rfl, htu, n', hn', hG2⟩
        have HX2 := Lib.hid (HX0.out.gate htu hG2 (HX0.out.D1.ent _ _ _))
        have hle : n' ≤ S.n + 1 := hn'
        clear htu hG2 hn'
        have hz2 := txz_alloc w2
        have HX2a := Lib.hid (HX2.out.fresh Tryd.zeroCells25 25)
        have HRW := Lib.hid (askR_wf fl S.nx S.D s)
        generalize (askR fl S.nx S.D s).1 = r1 at *
        generalize (askR fl S.nx S.D s).2 = q1 at *
        have HRL : Hid (r1.cells.length = zlTx.length) := show _ = _ from r1.cells_length HRW.out.by_ HRW.out.tag
        go_upto_region 6 with ((with_reducible refine wpList_store_whole rfl 25 (.tmp 7) (.tmp 26) rfl w2.heap.size r1.cells zlTx 25 rfl rfl hz2 HRL.out (tx_info HRW.out) (start_one _) ?_); intro w3 hU3; have HX3 := Lib.hid (HX2a.out.upd hU3.out); have c1 : w3.cell? ⟨b5, 1, none⟩ = some (.string s) := (by rw [cell_of_row w3 b5 1 _ _ _ HX3.out.e1]; rfl); clear hz2)
        go_wp2_with fail
        refine (xenter_any s w.heap.size x nb fl S.nxx S.lv S.ts _ HX3.out.X hs (by omega) HX3.out.b.size).mono ?_
        rintro e w4 ⟨⟨r2, q2, rfl, hr2⟩, ⟨lv', ts', hX4, hl4, hn4⟩, hT4⟩
        have HX4 := Lib.hid (HX3.out.xturn hT4 hX4 hn4)
        have HR2 := Lib.hid hr2
        have hle4 : ts'.length ≤ S.ts.length + 1 := hl4
        clear hX4 hl4 hn4 hT4 hr2
        have hz4 := txz_alloc w4
        have HX4a := Lib.hid (HX4.out.fresh Tryd.zeroCells25 25)
        have HRL2 : Hid (r2.cells.length = zlTx.length) := show _ = _ from r2.cells_length HR2.out.by_ HR2.out.tag
        clear c1 HX2 HX2a HX3 HX4
        generalize w2.heap.size = b7 at *
        by_cases hrr : r1 = r2
        · have HDD : Hid (decide (r1 = r2) = true) := show _ = _ from decide_eq_true hrr
          clear hrr
          go_wp2_with (first
            | ((with_reducible refine wpList_store_whole rfl 25 (.tmp 9) (.tmp 33) rfl w4.heap.size r2.cells zlTx 25 rfl rfl hz4 HRL2.out (tx_info HR2.out) (start_one _) ?_); intro w5 hU5; have HX5 := Lib.hid (HX4a.out.upd hU5.out); have hT9 := HX5.out.e0; have hT7 := HX5.out.e1; clear hz4)
            | (with_reducible refine wpList_load_rows_g (by kernel_rfl) 25 (.tmp 7) rfl b7 0 r1.cells r1.cells 25 (0, 0) _ rfl hT7 id_at Tryd.underlying25 rfl (tx_info HRW.out) ?_)
            | (with_reducible refine wpList_load_rows_g (by kernel_rfl) 25 (.tmp 9) rfl w4.heap.size 0 r2.cells r2.cells 25 (0, 0) _ rfl hT9 id_at Tryd.underlying25 rfl (tx_info HR2.out) ?_)
            | ((with_reducible refine wpList_bin_g (by kernel_rfl) .eql 25 25 (.tmp 35) (.tmp 36) rfl (.agg r1.cells.toArray) (.agg r2.cells.toArray) (.bool (decide (r1 = r2))) rfl rfl (tx_eqG _ _ _ _ _ _) (tx_eql HRW.out HR2.out _) ?_); rw [HDD.out]))
          go_ret
          exact ⟨⟨_, rfl⟩, _, HX5.out.drop.drop.drop, hle, hle4⟩
        · have HDD : Hid (decide (r1 = r2) = false) := show _ = _ from decide_eq_false hrr
          clear hrr
          go_wp2_with (first
            | ((with_reducible refine wpList_store_whole rfl 25 (.tmp 9) (.tmp 33) rfl w4.heap.size r2.cells zlTx 25 rfl rfl hz4 HRL2.out (tx_info HR2.out) (start_one _) ?_); intro w5 hU5; have HX5 := Lib.hid (HX4a.out.upd hU5.out); have hT9 := HX5.out.e0; have hT7 := HX5.out.e1; clear hz4)
            | (with_reducible refine wpList_load_rows_g (by kernel_rfl) 25 (.tmp 7) rfl b7 0 r1.cells r1.cells 25 (0, 0) _ rfl hT7 id_at Tryd.underlying25 rfl (tx_info HRW.out) ?_)
            | (with_reducible refine wpList_load_rows_g (by kernel_rfl) 25 (.tmp 9) rfl w4.heap.size 0 r2.cells r2.cells 25 (0, 0) _ rfl hT9 id_at Tryd.underlying25 rfl (tx_info HR2.out) ?_)
            | ((with_reducible refine wpList_bin_g (by kernel_rfl) .eql 25 25 (.tmp 35) (.tmp 36) rfl (.agg r1.cells.toArray) (.agg r2.cells.toArray) (.bool (decide (r1 = r2))) rfl rfl (tx_eqG _ _ _ _ _ _) (tx_eql HRW.out HR2.out _) ?_); rw [HDD.out]))
          go_ret
          exact ⟨⟨_, rfl⟩, _, HX5.out.drop.drop.drop, hle, hle4⟩
      · have d2 : (kd == 2) = false := by simpa using k2
        clear k2
        by_cases k3 : kd = 3
        · have d3 : (kd == 3) = true := by simpa using k3
          clear k3
          go_enter Tryd.func32, Tryd.ntmps32
          go_wp2_with fail
          generalize W.heap.size = b5 at *
          clear c0 c1
          refine (ask_any s g mb S.n fl S.nx S.D _ HX0.out.G HX0.out.D1 hs (HR.out.below HX0.out.b HR.out.1)).mono ?_
          rintro e w2 ⟨rfl, hb2⟩
          have HX2 := Lib.hid (HX0.out.next hb2)
          clear hb2
          have hz2 := txz_alloc w2
          have HX2a := Lib.hid (HX2.out.fresh Tryd.zeroCells25 25)
          have HRW := Lib.hid (askR_wf fl S.nx S.D s)
          generalize (askR fl S.nx S.D s).1 = r1 at *
          generalize (askR fl S.nx S.D s).2 = q1 at *
          have HRL : Hid (r1.cells.length = zlTx.length) := show _ = _ from r1.cells_length HRW.out.by_ HRW.out.tag
          go_upto_region 10 with ((with_reducible refine wpList_store_whole rfl 25 (.tmp 11) (.tmp 50) rfl w2.heap.size r1.cells zlTx 25 rfl rfl hz2 HRL.out (tx_info HRW.out) (start_one _) ?_); intro w3 hU3; have HX3 := Lib.hid (HX2a.out.upd hU3.out); have c1 : w3.cell? ⟨b5, 1, none⟩ = some (.string s) := (by rw [cell_of_row w3 b5 1 _ _ _ HX3.out.e1]; rfl); clear hz2)
          go_wp2_with fail
          refine (xask_any s w.heap.size x nb fl S.nxx S.lv S.ts _ HX3.out.X hs).mono ?_
          rintro e w4 ⟨⟨r2, q2, rfl, hr2, -⟩, hb4⟩
          have HX4 := Lib.hid (HX3.out.next hb4)
          have HR2 := Lib.hid hr2
          clear hb4 hr2
          have hz4 := txz_alloc w4
          have HX4a := Lib.hid (HX4.out.fresh Tryd.zeroCells25 25)
          have HRL2 : Hid (r2.cells.length = zlTx.length) := show _ = _ from r2.cells_length HR2.out.by_ HR2.out.tag
          clear c1 HX2 HX2a HX3 HX4
          generalize w2.heap.size = b7 at *
          by_cases hrr : r1 = r2
          · have HDD : Hid (decide (r1 = r2) = true) := show _ = _ from decide_eq_true hrr
            clear hrr
            go_wp2_with (first
              | ((with_reducible refine wpList_store_whole rfl 25 (.tmp 13) (.tmp 57) rfl w4.heap.size r2.cells zlTx 25 rfl rfl hz4 HRL2.out (tx_info HR2.out) (start_one _) ?_); intro w5 hU5; have HX5 := Lib.hid (HX4a.out.upd hU5.out); have hT9 := HX5.out.e0; have hT7 := HX5.out.e1; clear hz4)
              | (with_reducible refine wpList_load_rows_g (by kernel_rfl) 25 (.tmp 11) rfl b7 0 r1.cells r1.cells 25 (0, 0) _ rfl hT7 id_at Tryd.underlying25 rfl (tx_info HRW.out) ?_)
              | (with_reducible refine wpList_load_rows_g (by kernel_rfl) 25 (.tmp 13) rfl w4.heap.size 0 r2.cells r2.cells 25 (0, 0) _ rfl hT9 id_at Tryd.underlying25 rfl (tx_info HR2.out) ?_)
              | ((with_reducible refine wpList_bin_g (by kernel_rfl) .eql 25 25 (.tmp 59) (.tmp 60) rfl (.agg r1.cells.toArray) (.agg r2.cells.toArray) (.bool (decide (r1 = r2))) rfl rfl (tx_eqG _ _ _ _ _ _) (tx_eql HRW.out HR2.out _) ?_); rw [HDD.out]))
            go_ret
            exact ⟨⟨_, rfl⟩, _, HX5.out.drop.drop.drop, Nat.le_succ _, Nat.le_succ _⟩
          · have HDD : Hid (decide (r1 = r2) = false) := show _ = _ from decide_eq_false hrr
            clear hrr
            go_wp2_with (first
              | ((with_reducible refine wpList_store_whole rfl 25 (.tmp 13) (.tmp 57) rfl w4.heap.size r2.cells zlTx 25 rfl rfl hz4 HRL2.out (tx_info HR2.out) (start_one _) ?_); intro w5 hU5; have HX5 := Lib.hid (HX4a.out.upd hU5.out); have hT9 := HX5.out.e0; have hT7 := HX5.out.e1; clear hz4)
              | (with_reducible refine wpList_load_rows_g (by kernel_rfl) 25 (.tmp 11) rfl b7 0 r1.cells r1.cells 25 (0, 0) _ rfl hT7 id_at Tryd.underlying25 rfl (tx_info HRW.out) ?_)
              | (with_reducible refine wpList_load_rows_g (by kernel_rfl) 25 (.tmp 13) rfl w4.heap.size 0 r2.cells r2.cells 25 (0, 0) _ rfl hT9 id_at Tryd.underlying25 rfl (tx_info HR2.out) ?_)
              | ((with_reducible refine wpList_bin_g (by kernel_rfl) .eql 25 25 (.tmp 59) (.tmp 60) rfl (.agg r1.cells.toArray) (.agg r2.cells.toArray) (.bool (decide (r1 = r2))) rfl rfl (tx_eqG _ _ _ _ _ _) (tx_eql HRW.out HR2.out _) ?_); rw [HDD.out]))
            go_ret
            exact ⟨⟨_, rfl⟩, _, HX5.out.drop.drop.drop, Nat.le_succ _, Nat.le_succ _⟩
        · have d3 : (kd == 3) = false := by simpa using k3
          clear k3
          by_cases k4 : kd = 4
          · have d4 : (kd == 4) = true := by simpa using k4
            clear k4
            go_enter Tryd.func32, Tryd.ntmps32
            go_wp2_with fail
            generalize W.heap.size = b5 at *
            clear c0 c1
            have HXd := Lib.hid (HX0.out.next (Below.refl _ _).drew)
            refine wp_region_held_drew (S := fun V => V.rangeAt b5 0 (actC kd s t)) (by kernel_rfl) (KEEP.out _ HXd.out.e0) (fun _ => ?_)
            refine rg_gen (i := 0) (v := ?_) rfl (by kernel_rfl) (by kernel_rfl) (by kernel_rfl) (fun _ _ _ h => h) rfl (by rfl) ?_ (by assumption) ?_
            rotate_left
            · intro w hSw
              try dsimp only at hSw
              go_simp
              try with_reducible rfl
            try simp only [Act.put, List.setIfInBounds_toArray, List.set_cons_zero, List.set_cons_succ]
            refine rg_row (i := 1) rfl (by kernel_rfl) (by kernel_rfl) (by kernel_rfl) (fun _ _ _ _ h => h) rfl (by rfl) 49 (.tmp 5) rfl b5 0 (actC kd s t) rfl (fun W h => h) hu rfl (actC_info HT.out) (by assumption) ?_
            try simp only [Act.put, List.setIfInBounds_toArray, List.set_cons_zero, List.set_cons_succ]
            refine rg_gen (i := 4) (v := ?_) rfl (by kernel_rfl) (by kernel_rfl) (by kernel_rfl) (fun _ _ _ h => h) rfl (by rfl) ?_ (by assumption) ?_
            rotate_left
            · intro w hSw
              try dsimp only at hSw
              go_simp
              try with_reducible rfl
            try simp only [Act.put, List.setIfInBounds_toArray, List.set_cons_zero, List.set_cons_succ]
            refine rg_row (i := 5) rfl (by kernel_rfl) (by kernel_rfl) (by kernel_rfl) (fun _ _ _ _ h => h) rfl (by rfl) 49 (.tmp 5) rfl b5 0 (actC kd s t) rfl (fun W h => h) hu rfl (actC_info HT.out) (by assumption) ?_
            try simp only [Act.put, List.setIfInBounds_toArray, List.set_cons_zero, List.set_cons_succ]
            refine rg_one (i := 2) (by kernel_rfl) rfl (fun K hK => ?_)
            go_simp
            go_at_call 75
            refine (of_any kd s t _ HT.out hs).mono ?_
            rintro e w2 ⟨⟨r1, rfl, hr1⟩, hb⟩
            have HR1 := Lib.hid hr1
            have HX2 := Lib.hid (HXd.out.next hb)
            clear hb hr1
            go_wp2_with fail
            refine hK.out _ _ (KEEP.out _ HX2.out.e0) (fun _ => ?_)
            clear hK K
            try simp only [Act.put, List.setIfInBounds_toArray, List.set_cons_zero, List.set_cons_succ]
            refine rg_one (i := 3) (by kernel_rfl) rfl (fun K hK => ?_)
            go_simp
            go_at_call 36
            refine (leave_any r1 g mb S.n fl S.nx S.D _ HX2.out.G HX2.out.D1 HR1.out).mono ?_
            rintro e w3 ⟨rfl, htu, hG3⟩
            have HX3 := Lib.hid (HX2.out.gate htu hG3 (HX2.out.D1.out _))
            clear htu hG3
            generalize (if isB S.D r1 = true then (0 : Int) else 34) = q1 at *
            go_wp2_with fail
            refine hK.out _ _ (KEEP.out _ HX3.out.e0) (fun _ => ?_)
            clear hK K
            try simp only [Act.put, List.setIfInBounds_toArray, List.set_cons_zero, List.set_cons_succ]
            refine rg_one (i := 6) (by kernel_rfl) rfl (fun K hK => ?_)
            go_simp
            go_at_call 75
            refine (of_any kd s t _ HT.out hs).mono ?_
            rintro e w4 ⟨⟨r2, rfl, hr2⟩, hb⟩
            have HR2 := Lib.hid hr2
            have HX4 := Lib.hid (HX3.out.next hb)
            clear hb hr2
            go_wp2_with fail
            refine hK.out _ _ (KEEP.out _ HX4.out.e0) (fun _ => ?_)
            clear hK K
            try simp only [Act.put, List.setIfInBounds_toArray, List.set_cons_zero, List.set_cons_succ]
            refine rg_one (i := 7) (by kernel_rfl) rfl (fun K hK => ?_)
            go_simp
            go_at_call 76
            refine (xleave_any r2 false w.heap.size x nb fl S.nxx S.lv S.ts _ HX4.out.X HR2.out HX4.out.b.size).mono ?_
            rintro e w5 ⟨⟨q2, rfl⟩, ⟨nxx', lv', ts', hX5, hl5, hn5⟩, hT5⟩
            have HX5 := Lib.hid (HX4.out.xturn hT5 hX5 hn5)
            clear hX5 hn5 hT5
            go_wp2_with fail
            refine hK.out _ _ (KEEP.out _ HX5.out.e0) (fun _ => ?_)
            clear hK K
            try simp only [Act.put, List.setIfInBounds_toArray, List.set_cons_zero, List.set_cons_succ]
            refine rg_gen (i := 8) (v := ?_) rfl (by kernel_rfl) (by kernel_rfl) (by kernel_rfl) (fun _ _ _ h => h) rfl (by rfl) ?_ (by assumption) ?_
            rotate_left
            · intro w hSw
              try dsimp only at hSw
              go_simp
              try with_reducible rfl
            try simp only [Act.put, List.setIfInBounds_toArray, List.set_cons_zero, List.set_cons_succ]
            refine rg_gen (i := 9) (v := ?_) rfl (by kernel_rfl) (by kernel_rfl) (by kernel_rfl) (fun _ _ _ h => h) rfl (by rfl) ?_ (by assumption) ?_
            rotate_left
            · intro w hSw
              try dsimp only at hSw
              go_simp
              try with_reducible rfl
            try simp only [Act.put, List.setIfInBounds_toArray, List.set_cons_zero, List.set_cons_succ]
            refine wpAnyH_done (by kernel_rfl) ?_ _
            clear HX0 HXd HX2 HX3 HX4 KEEP hu
            go_wp2_with fail
            go_ret
            exact ⟨⟨_, rfl⟩, _, HX5.out.drop, Nat.le_succ _, Nat.le_trans hl5 (Nat.le_succ _)⟩
          · have d4 : (kd == 4) = false := by simpa using k4
            clear k4
            by_cases k6 : kd = 6
            · have d6 : (kd == 6) = true := by simpa using k6
              clear k6
              go_enter Tryd.func32, Tryd.ntmps32
              go_wp2_with fail
              generalize W.heap.size = b5 at *
              clear c0 c1
              have HXd := Lib.hid (HX0.out.next (Below.refl _ _).drew)
              refine wp_region_held_drew (S := fun V => V.rangeAt b5 0 (actC kd s t)) (by kernel_rfl) (KEEP.out _ HXd.out.e0) (fun _ => ?_)
              refine rg_gen (i := 0) (v := ?_) rfl (by kernel_rfl) (by kernel_rfl) (by kernel_rfl) (fun _ _ _ h => h) rfl (by rfl) ?_ (by assumption) ?_
              rotate_left
              · intro w hSw
                try dsimp only at hSw
                go_simp
                try with_reducible rfl
              try simp only [Act.put, List.setIfInBounds_toArray, List.set_cons_zero, List.set_cons_succ]
              refine rg_row (i := 1) rfl (by kernel_rfl) (by kernel_rfl) (by kernel_rfl) (fun _ _ _ _ h => h) rfl (by rfl) 49 (.tmp 5) rfl b5 0 (actC kd s t) rfl (fun W h => h) hu rfl (actC_info HT.out) (by assumption) ?_
              try simp only [Act.put, List.setIfInBounds_toArray, List.set_cons_zero, List.set_cons_succ]
              refine rg_gen (i := 4) (v := ?_) rfl (by kernel_rfl) (by kernel_rfl) (by kernel_rfl) (fun _ _ _ h => h) rfl (by rfl) ?_ (by assumption) ?_
              rotate_left
              · intro w hSw
                try dsimp only at hSw
                go_simp
                try with_reducible rfl
              try simp only [Act.put, List.setIfInBounds_toArray, List.set_cons_zero, List.set_cons_succ]
              refine rg_row (i := 5) rfl (by kernel_rfl) (by kernel_rfl) (by kernel_rfl) (fun _ _ _ _ h => h) rfl (by rfl) 49 (.tmp 5) rfl b5 0 (actC kd s t) rfl (fun W h => h) hu rfl (actC_info HT.out) (by assumption) ?_
              try simp only [Act.put, List.setIfInBounds_toArray, List.set_cons_zero, List.set_cons_succ]
              refine rg_one (i := 2) (by kernel_rfl) rfl (fun K hK => ?_)
              go_simp
              go_at_call 75
              refine (of_any kd s t _ HT.out hs).mono ?_
              rintro e w2 ⟨⟨r1, rfl, hr1⟩, hb⟩
              have HR1 := Lib.hid hr1
              have HX2 := Lib.hid (HXd.out.next hb)
              clear hb hr1
              go_wp2_with fail
              refine hK.out _ _ (KEEP.out _ HX2.out.e0) (fun _ => ?_)
              clear hK K
              try simp only [Act.put, List.setIfInBounds_toArray, List.set_cons_zero, List.set_cons_succ]
              refine rg_one (i := 3) (by kernel_rfl) rfl (fun K hK => ?_)
              go_simp
              go_at_call 36
              refine (leave_any r1 g mb S.n fl S.nx S.D _ HX2.out.G HX2.out.D1 HR1.out).mono ?_
              rintro e w3 ⟨rfl, htu, hG3⟩
              have HX3 := Lib.hid (HX2.out.gate htu hG3 (HX2.out.D1.out _))
              clear htu hG3
              generalize (if isB S.D r1 = true then (0 : Int) else 34) = q1 at *
              go_wp2_with fail
              refine hK.out _ _ (KEEP.out _ HX3.out.e0) (fun _ => ?_)
              clear hK K
              try simp only [Act.put, List.setIfInBounds_toArray, List.set_cons_zero, List.set_cons_succ]
              refine rg_one (i := 6) (by kernel_rfl) rfl (fun K hK => ?_)
              go_simp
              go_at_call 75
              refine (of_any kd s t _ HT.out hs).mono ?_
              rintro e w4 ⟨⟨r2, rfl, hr2⟩, hb⟩
              have HR2 := Lib.hid hr2
              have HX4 := Lib.hid (HX3.out.next hb)
              clear hb hr2
              go_wp2_with fail
              refine hK.out _ _ (KEEP.out _ HX4.out.e0) (fun _ => ?_)
              clear hK K
              try simp only [Act.put, List.setIfInBounds_toArray, List.set_cons_zero, List.set_cons_succ]
              refine rg_one (i := 7) (by kernel_rfl) rfl (fun K hK => ?_)
              go_simp
              go_at_call 76
              refine (xleave_any r2 false w.heap.size x nb fl S.nxx S.lv S.ts _ HX4.out.X HR2.out HX4.out.b.size).mono ?_
              rintro e w5 ⟨⟨q2, rfl⟩, ⟨nxx', lv', ts', hX5, hl5, hn5⟩, hT5⟩
              have HX5 := Lib.hid (HX4.out.xturn hT5 hX5 hn5)
              clear hX5 hn5 hT5
              go_wp2_with fail
              refine hK.out _ _ (KEEP.out _ HX5.out.e0) (fun _ => ?_)
              clear hK K
              try simp only [Act.put, List.setIfInBounds_toArray, List.set_cons_zero, List.set_cons_succ]
              refine rg_gen (i := 8) (v := ?_) rfl (by kernel_rfl) (by kernel_rfl) (by kernel_rfl) (fun _ _ _ h => h) rfl (by rfl) ?_ (by assumption) ?_
              rotate_left
              · intro w hSw
                try dsimp only at hSw
                go_simp
                try with_reducible rfl
              try simp only [Act.put, List.setIfInBounds_toArray, List.set_cons_zero, List.set_cons_succ]
              refine rg_gen (i := 9) (v := ?_) rfl (by kernel_rfl) (by kernel_rfl) (by kernel_rfl) (fun _ _ _ h => h) rfl (by rfl) ?_ (by assumption) ?_
              rotate_left
              · intro w hSw
                try dsimp only at hSw
                go_simp
                try with_reducible rfl
              try simp only [Act.put, List.setIfInBounds_toArray, List.set_cons_zero, List.set_cons_succ]
              refine wpAnyH_done (by kernel_rfl) ?_ _
              clear HX0 HXd HX2 HX3 HX4 KEEP hu
              go_wp2_with fail
              go_ret
              exact ⟨⟨_, rfl⟩, _, HX5.out.drop, Nat.le_succ _, Nat.le_trans hl5 (Nat.le_succ _)⟩
            · have d6 : (kd == 6) = false := by simpa using k6
              clear k6
              go_enter Tryd.func32, Tryd.ntmps32
              go_wp2_with fail
              generalize W.heap.size = b5 at *
              clear c0 c1
              have HXd := Lib.hid (HX0.out.next (Below.refl _ _).drew)
              refine wp_region_held_drew (S := fun V => V.rangeAt b5 0 (actC kd s t)) (by kernel_rfl) (KEEP.out _ HXd.out.e0) (fun _ => ?_)
              refine rg_gen (i := 0) (v := ?_) rfl (by kernel_rfl) (by kernel_rfl) (by kernel_rfl) (fun _ _ _ h => h) rfl (by rfl) ?_ (by assumption) ?_
              rotate_left
              · intro w hSw
                try dsimp only at hSw
                go_simp
                try with_reducible rfl
              try simp only [Act.put, List.setIfInBounds_toArray, List.set_cons_zero, List.set_cons_succ]
              refine rg_row (i := 1) rfl (by kernel_rfl) (by kernel_rfl) (by kernel_rfl) (fun _ _ _ _ h => h) rfl (by rfl) 49 (.tmp 5) rfl b5 0 (actC kd s t) rfl (fun W h => h) hu rfl (actC_info HT.out) (by assumption) ?_
              try simp only [Act.put, List.setIfInBounds_toArray, List.set_cons_zero, List.set_cons_succ]
              refine rg_gen (i := 4) (v := ?_) rfl (by kernel_rfl) (by kernel_rfl) (by kernel_rfl) (fun _ _ _ h => h) rfl (by rfl) ?_ (by assumption) ?_
              rotate_left
              · intro w hSw
                try dsimp only at hSw
                go_simp
                try with_reducible rfl
              try simp only [Act.put, List.setIfInBounds_toArray, List.set_cons_zero, List.set_cons_succ]
              refine rg_row (i := 5) rfl (by kernel_rfl) (by kernel_rfl) (by kernel_rfl) (fun _ _ _ _ h => h) rfl (by rfl) 49 (.tmp 5) rfl b5 0 (actC kd s t) rfl (fun W h => h) hu rfl (actC_info HT.out) (by assumption) ?_
              try simp only [Act.put, List.setIfInBounds_toArray, List.set_cons_zero, List.set_cons_succ]
              refine rg_one (i := 2) (by kernel_rfl) rfl (fun K hK => ?_)
              go_simp
              go_at_call 75
              refine (of_any kd s t _ HT.out hs).mono ?_
              rintro e w2 ⟨⟨r1, rfl, hr1⟩, hb⟩
              have HR1 := Lib.hid hr1
              have HX2 := Lib.hid (HXd.out.next hb)
              clear hb hr1
              go_wp2_with fail
              refine hK.out _ _ (KEEP.out _ HX2.out.e0) (fun _ => ?_)
              clear hK K
              try simp only [Act.put, List.setIfInBounds_toArray, List.set_cons_zero, List.set_cons_succ]
              refine rg_one (i := 3) (by kernel_rfl) rfl (fun K hK => ?_)
              go_simp
              go_at_call 37
              refine (done_any r1 g mb S.n fl S.nx S.D _ HX2.out.G HX2.out.D1 HR1.out).mono ?_
              rintro e w3 ⟨rfl, htu, hG3⟩
              have HX3 := Lib.hid (HX2.out.gate htu hG3 (HX2.out.D1.done _ _))
              clear htu hG3
              generalize (doneR S.nx S.D r1).1 = q1
              go_wp2_with fail
              refine hK.out _ _ (KEEP.out _ HX3.out.e0) (fun _ => ?_)
              clear hK K
              try simp only [Act.put, List.setIfInBounds_toArray, List.set_cons_zero, List.set_cons_succ]
              refine rg_one (i := 6) (by kernel_rfl) rfl (fun K hK => ?_)
              go_simp
              go_at_call 75
              refine (of_any kd s t _ HT.out hs).mono ?_
              rintro e w4 ⟨⟨r2, rfl, hr2⟩, hb⟩
              have HR2 := Lib.hid hr2
              have HX4 := Lib.hid (HX3.out.next hb)
              clear hb hr2
              go_wp2_with fail
              refine hK.out _ _ (KEEP.out _ HX4.out.e0) (fun _ => ?_)
              clear hK K
              try simp only [Act.put, List.setIfInBounds_toArray, List.set_cons_zero, List.set_cons_succ]
              refine rg_one (i := 7) (by kernel_rfl) rfl (fun K hK => ?_)
              go_simp
              go_at_call 76
              refine (xleave_any r2 true w.heap.size x nb fl S.nxx S.lv S.ts _ HX4.out.X HR2.out HX4.out.b.size).mono ?_
              rintro e w5 ⟨⟨q2, rfl⟩, ⟨nxx', lv', ts', hX5, hl5, hn5⟩, hT5⟩
              have HX5 := Lib.hid (HX4.out.xturn hT5 hX5 hn5)
              clear hX5 hn5 hT5
              go_wp2_with fail
              refine hK.out _ _ (KEEP.out _ HX5.out.e0) (fun _ => ?_)
              clear hK K
              try simp only [Act.put, List.setIfInBounds_toArray, List.set_cons_zero, List.set_cons_succ]
              refine rg_gen (i := 8) (v := ?_) rfl (by kernel_rfl) (by kernel_rfl) (by kernel_rfl) (fun _ _ _ h => h) rfl (by rfl) ?_ (by assumption) ?_
              rotate_left
              · intro w hSw
                try dsimp only at hSw
                go_simp
                try with_reducible rfl
              try simp only [Act.put, List.setIfInBounds_toArray, List.set_cons_zero, List.set_cons_succ]
              refine rg_gen (i := 9) (v := ?_) rfl (by kernel_rfl) (by kernel_rfl) (by kernel_rfl) (fun _ _ _ h => h) rfl (by rfl) ?_ (by assumption) ?_
              rotate_left
              · intro w hSw
                try dsimp only at hSw
                go_simp
                try with_reducible rfl
              try simp only [Act.put, List.setIfInBounds_toArray, List.set_cons_zero, List.set_cons_succ]
              refine wpAnyH_done (by kernel_rfl) ?_ _
              clear HX0 HXd HX2 HX3 HX4 KEEP hu
              go_wp2_with fail
              go_ret
              exact ⟨⟨_, rfl⟩, _, HX5.out.drop, Nat.le_succ _, Nat.le_trans hl5 (Nat.le_succ _)⟩
end Go.Proofs.YtckfdmkjeocadaaDoor
