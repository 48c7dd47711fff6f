/- The reference's gate: Ask, Enter, New. -/
import Derived.Test.YtckfdmkjeocadaaDoorTxRows
namespace Go.Proofs.YtckfdmkjeocadaaDoor
open Go.RowKit
set_option maxHeartbeats 4000000
set_option maxRecDepth 4000
def AskPost (w : World) (e : Ending) (w' : World) : Prop := (∃ (r : TX) (q : Int), e = .returned (.tuple #[.agg r.cells.toArray, .int .i64 q]) ∧ r.wf ∧ (q = 0 → 0 ≤ r.frm ∧ r.frm < 64)) ∧ Below w.heap.size w w'
theorem xask_any (s : ByteArray) (base x nb : Nat) (fl : Int) (nx : List Int) (lv : Value) (ts : List TX) (w : World) (hX : XG w base x fl nx nb lv ts) (hs : s.size ≤ 140737488355328) :
    Calls Tryd.prog 74 #[.pointer (some ⟨x, 0, none⟩), .string s] w (AskPost w) := by
  have HX := Lib.hid hX
  have hz0 : (w.alloc (.cells Tryd.zeroCells25 25)).heap[w.heap.size]? = some (.cells zlTx.toArray 25 (0, 0)) := heap_alloc_new w _
  cases hrd : rdTx s with
  | error y =>
    have hx1 : (y != 0) = true := by have := rdTx_err hrd; simpa using this
    have HRD := Lib.hid hrd
    clear hX hrd
    go_enter Tryd.func74, Tryd.ntmps74
    go_wp2_with fail
    refine (rread_any s _ hs).mono ?_
    rintro e w1 ⟨rfl, hb1⟩
    rw [HRD.out]
    simp only [txOf, errOf]
    have HZ1 := Lib.hid ((Below.heap_alloc w1 (.cells Tryd.zeroCells25 25) _ (block_lt ((hb1.block _ (block_lt hz0)).trans hz0))).trans ((hb1.block _ (block_lt hz0)).trans hz0))
    have HB1 := Lib.hid (bw_alloc (bw_call (bw_alloc (Below.refl w.heap.size w) (.cells Tryd.zeroCells25 25)) hb1) (.cells Tryd.zeroCells25 25))
    have hz1 : (w1.alloc (.cells Tryd.zeroCells25 25)).heap[w1.heap.size]? = some (.cells zlTx.toArray 25 (0, 0)) := heap_alloc_new w1 _
    have hne : w.heap.size ≠ w1.heap.size := Nat.ne_of_lt (block_lt ((hb1.block _ (block_lt hz0)).trans hz0))
    have hle : w.heap.size ≤ w1.heap.size := Nat.le_trans (by simp) hb1.size
    clear hb1 hz0
    go_upto_if 14 with ((with_reducible refine wpList_store_whole rfl 25 (.tmp 6) (.tmp 11) rfl w1.heap.size TX.zero.cells zlTx 25 rfl rfl hz1 rfl (tx_info TX.zero_wf) (start_one _) ?_); intro w2 hU2; have hz9 := (hU2.out.other _ hne).trans HZ1.out; have HB2 := Lib.hid (hU2.out.below HB1.out hle); clear hz1)
    go_wp2_with (first
      | (with_reducible refine wpList_build rfl 25 [] rfl [] (.agg zlTx.toArray) rfl (tx_build0 _) ?_)
      | ((with_reducible refine wpList_store_whole rfl 25 (.tmp 4) (.tmp 15) rfl w.heap.size zlTx zlTx 25 rfl rfl hz9 rfl zlTx_info zlTx_one ?_); intro w10 hU))
    exact post_cell_tmp 4 5 25 rfl w.heap.size _ zlTx _ _ hU.out.at_ Tryd.underlying25 rfl zlTx_info (.int .i64 6) rfl rfl rfl ⟨⟨TX.zero, 6, rfl, TX.zero_wf, fun h => absurd h (by decide)⟩, hU.out.below HB2.out (Nat.le_refl _)⟩
  | ok t =>
    have HRD := Lib.hid hrd
    have HT : Hid t.wf := show _ from (tx_back hrd).1
    have HTL : Hid (t.cells.length = zlTx.length) := show _ = _ from t.cells_length HT.out.by_ HT.out.tag
    have hfr0 := frm_of17 hrd
    obtain ⟨fr, hfr⟩ : ∃ fr : Nat, t.frm = (fr : Int) := ⟨t.frm.toNat, by omega⟩
    have hfr64 : fr < 64 := by omega
    have HFR := Lib.hid hfr
    obtain ⟨nn, hnn⟩ : ∃ y, y = nx.getD fr 0 := ⟨_, rfl⟩
    have HNN := Lib.hid hnn
    have f0 : (0 : Int) ≤ fr := by omega
    have f1 : (fr : Int) < 64 := by omega
    have HAT : Hid (∀ W, XG W base x fl nx nb lv ts → Calls Tryd.prog 100 #[.pointer (some ⟨x, 0, none⟩), .agg t.cells.toArray] W fun e w' => (∃ k, e = .returned (.int .i64 k) ∧ AtOk ts t k) ∧ Below W.heap.size W w') := show ∀ W, _ from fun W h => xat_any base x nb fl nx lv ts t W h HT.out
    clear hX hrd hnn hfr hfr0
    go_enter Tryd.func74, Tryd.ntmps74
    go_wp2_with fail
    refine (rread_any s _ hs).mono ?_
    rintro e w1 ⟨rfl, hb1⟩
    rw [HRD.out]
    simp only [txOf, errOf]
    have HZ1 := Lib.hid ((Below.heap_alloc w1 (.cells Tryd.zeroCells25 25) _ (block_lt ((hb1.block _ (block_lt hz0)).trans hz0))).trans ((hb1.block _ (block_lt hz0)).trans hz0))
    have HB1 := Lib.hid (bw_alloc (bw_call (bw_alloc (Below.refl w.heap.size w) (.cells Tryd.zeroCells25 25)) hb1) (.cells Tryd.zeroCells25 25))
    have hz1 : (w1.alloc (.cells Tryd.zeroCells25 25)).heap[w1.heap.size]? = some (.cells zlTx.toArray 25 (0, 0)) := heap_alloc_new w1 _
    have hne : w.heap.size ≠ w1.heap.size := Nat.ne_of_lt (block_lt ((hb1.block _ (block_lt hz0)).trans hz0))
    have hle : w.heap.size ≤ w1.heap.size := Nat.le_trans (by simp) hb1.size
    clear hb1 hz0
    go_wp2_with (first
      | ((with_reducible refine wpList_store_whole rfl 25 (.tmp 6) (.tmp 11) rfl w1.heap.size t.cells zlTx 25 rfl rfl hz1 HTL.out (tx_info HT.out) (start_one _) ?_); intro w2 hU2; have hT2 := hU2.out.at_; have HZ2 := Lib.hid ((hU2.out.other _ hne).trans HZ1.out); have HB2 := Lib.hid (hU2.out.below HB1.out hle); clear hz1)
      | (with_reducible refine wpList_load_rows rfl 25 (.tmp 6) rfl w1.heap.size 0 t.cells t.cells 25 (0, 0) _ rfl hT2 id_at Tryd.underlying25 rfl (tx_info HT.out) ?_))
    refine (rsigned_any t _ HT.out).mono ?_
    rintro e w3 ⟨rfl, hb3⟩
    have hT3 := (hb3.block _ (block_lt hT2)).trans hT2
    have HZ3 := Lib.hid ((hb3.block _ (block_lt HZ2.out)).trans HZ2.out)
    have HB3 := Lib.hid (bw_call HB2.out hb3)
    have HX3 := Lib.hid (HX.out.below HB3.out)
    clear hb3 hT2
    generalize w1.heap.size = b1 at *
    by_cases hsg : t.signed = 0
    · have hd1 : (t.signed != 0) = false := by simpa using hsg
      clear hsg
      have k2 : w3.cell? ⟨b1, 2, none⟩ = some (.int .i64 t.fee) := by rw [cell_of_row w3 b1 2 _ _ _ hT3]; rfl
      have g0 := HX3.out.c0
      have HT3 := Lib.hid hT3
      clear hT3
      go_wp2_with fail
      go_quiet (fail)
      have HT4 : Hid ((w3.drewN nq).heap[b1]? = some (.cells t.cells.toArray 25 (0, 0))) := show _ = _ from HT3.out
      have HZ4 : Hid ((w3.drewN nq).heap[w.heap.size]? = some (.cells zlTx.toArray 25 (0, 0))) := show _ = _ from HZ3.out
      have HB4 := Lib.hid (bw_drewN HB3.out nq)
      have HX4 := Lib.hid (HX3.out.below (bw_drewN (Below.refl _ _) nq))
      clear k2 g0 HT3 HZ3 HB3 HX3
      generalize w3.drewN nq = w4 at *
      go_upto_if 26 with fail
      by_cases hf : t.fee < fl
      · rw [decide_eq_true hf]
        have hz9 := HZ4.out
        clear hf
        go_wp2_with (first
          | (with_reducible refine wpList_build rfl 25 [] rfl [] (.agg zlTx.toArray) rfl (tx_build0 _) ?_)
          | ((with_reducible refine wpList_store_whole rfl 25 (.tmp 4) (.tmp 27) rfl w.heap.size zlTx zlTx 25 rfl rfl hz9 rfl zlTx_info zlTx_one ?_); intro w10 hU))
        exact post_cell_tmp 4 5 25 rfl w.heap.size _ zlTx _ _ hU.out.at_ Tryd.underlying25 rfl zlTx_info (.int .i64 24) rfl rfl rfl ⟨⟨TX.zero, 24, rfl, TX.zero_wf, fun h => absurd h (by decide)⟩, hU.out.below HB4.out (Nat.le_refl _)⟩
      · rw [decide_eq_false hf]
        have k0 : w4.cell? ⟨b1, 0, none⟩ = some (.int .i64 fr) := by rw [← HFR.out, cell_of_row w4 b1 0 _ _ _ HT4.out]; rfl
        have k1 : w4.cell? ⟨b1, 1, none⟩ = some (.int .i64 t.nonce) := by rw [cell_of_row w4 b1 1 _ _ _ HT4.out]; rfl
        have g1 := HX4.out.c1
        have g2 : w4.cell? ⟨nb, fr, none⟩ = some (.int .i64 nn) := by rw [HNN.out]; exact HX4.out.cn hfr64
        clear hf
        go_wp2_with fail
        go_quiet (fail)
        have hT5 : (w4.drewN nq).heap[b1]? = some (.cells t.cells.toArray 25 (0, 0)) := HT4.out
        have HZ5 : Hid ((w4.drewN nq).heap[w.heap.size]? = some (.cells zlTx.toArray 25 (0, 0))) := show _ = _ from HZ4.out
        have HB5 := Lib.hid (bw_drewN HB4.out nq)
        have HX5 := Lib.hid (HX4.out.below (bw_drewN (Below.refl _ _) nq))
        clear k0 k1 g1 g2 HT4 HZ4 HB4 HX4
        generalize w4.drewN nq = w5 at *
        go_upto_if 38 with fail
        by_cases hn : t.nonce < nn
        · rw [decide_eq_true hn]
          have hz9 := HZ5.out
          clear hn hT5
          go_wp2_with (first
            | (with_reducible refine wpList_build rfl 25 [] rfl [] (.agg zlTx.toArray) rfl (tx_build0 _) ?_)
            | ((with_reducible refine wpList_store_whole rfl 25 (.tmp 4) (.tmp 39) rfl w.heap.size zlTx zlTx 25 rfl rfl hz9 rfl zlTx_info zlTx_one ?_); intro w10 hU))
          exact post_cell_tmp 4 5 25 rfl w.heap.size _ zlTx _ _ hU.out.at_ Tryd.underlying25 rfl zlTx_info (.int .i64 22) rfl rfl rfl ⟨⟨TX.zero, 22, rfl, TX.zero_wf, fun h => absurd h (by decide)⟩, hU.out.below HB5.out (Nat.le_refl _)⟩
        · rw [decide_eq_false hn]
          clear hn
          go_wp2_with (with_reducible refine wpList_load_rows rfl 25 (.tmp 6) rfl b1 0 t.cells t.cells 25 (0, 0) _ rfl hT5 id_at Tryd.underlying25 rfl (tx_info HT.out) ?_)
          refine (HAT.out _ HX5.out).mono ?_
          rintro e w6 ⟨⟨k, rfl, hk⟩, hb6⟩
          have hT6 := keep_row hb6 hT5
          have hz9 := keep_row hb6 HZ5.out
          have HB6 := Lib.hid (bw_call HB5.out hb6)
          clear hb6 hT5 hk
          by_cases hk0 : 0 ≤ k
          · have hd2 : decide (0 ≤ k) = true := decide_eq_true hk0
            clear hk0 hT6
            go_wp2_with (first
              | (with_reducible refine wpList_build rfl 25 [] rfl [] (.agg zlTx.toArray) rfl (tx_build0 _) ?_)
              | ((with_reducible refine wpList_store_whole rfl 25 (.tmp 4) (.tmp 44) rfl w.heap.size zlTx zlTx 25 rfl rfl hz9 rfl zlTx_info zlTx_one ?_); intro w10 hU))
            exact post_cell_tmp 4 5 25 rfl w.heap.size _ zlTx _ _ hU.out.at_ Tryd.underlying25 rfl zlTx_info (.int .i64 23) rfl rfl rfl ⟨⟨TX.zero, 23, rfl, TX.zero_wf, fun h => absurd h (by decide)⟩, hU.out.below HB6.out (Nat.le_refl _)⟩
          · have hd2 : decide (0 ≤ k) = false := decide_eq_false hk0
            clear hk0
            go_wp2_with (first
              | (with_reducible refine wpList_load_rows rfl 25 (.tmp 6) rfl b1 0 t.cells t.cells 25 (0, 0) _ rfl hT6 id_at Tryd.underlying25 rfl (tx_info HT.out) ?_)
              | ((with_reducible refine wpList_store_whole rfl 25 (.tmp 4) (.tmp 45) rfl w.heap.size t.cells zlTx 25 rfl rfl hz9 HTL.out (tx_info HT.out) (start_one _) ?_); intro w10 hU))
            exact post_cell_tmp 4 5 25 rfl w.heap.size _ t.cells _ _ hU.out.at_ Tryd.underlying25 rfl (tx_info HT.out) (.int .i64 0) rfl rfl rfl ⟨⟨t, 0, rfl, HT.out, fun _ => by rw [HFR.out]; exact ⟨f0, f1⟩⟩, hU.out.below HB6.out (Nat.le_refl _)⟩
    · have hd1 : (t.signed != 0) = true := by simpa using hsg
      have hz9 := HZ3.out
      clear hsg hT3
      go_wp2_with (first
        | (with_reducible refine wpList_build rfl 25 [] rfl [] (.agg zlTx.toArray) rfl (tx_build0 _) ?_)
        | ((with_reducible refine wpList_store_whole rfl 25 (.tmp 4) (.tmp 19) rfl w.heap.size zlTx zlTx 25 rfl rfl hz9 rfl zlTx_info zlTx_one ?_); intro w10 hU))
      exact post_cell_tmp 4 5 25 rfl w.heap.size _ zlTx _ _ hU.out.at_ Tryd.underlying25 rfl zlTx_info (.int .i64 21) rfl rfl rfl ⟨⟨TX.zero, 21, rfl, TX.zero_wf, fun h => absurd h (by decide)⟩, hU.out.below HB3.out (Nat.le_refl _)⟩
theorem XG.put {W W' W'' : World} {base x nb : Nat} {fl : Int} {nx : List Int} {lv lv' : Value} {ts : List TX} {t : TX} (h : XG W base x fl nx nb lv ts) (ht : t.wf ∧ 0 ≤ t.frm ∧ t.frm < 64) (hn : ts.length < 1000)
    (ho : W'.ownsRow base 25 72 lv' (ts.length + 1) (tcells ts ++ t.cells)) (hg : W.grownBy W' lv.ownBlock) (hw : OwnNew W lv lv') (he : W'' = W'.setCell ⟨x, 2, none⟩ lv') : XG W'' base x fl nx nb lv' (ts ++ [t]) := by
  subst he
  have hl := h.lts
  have hx : W'.heap[x]? = some (.cells [Value.int .i64 fl, .slice (some ⟨nb, 0, none⟩) 64 64, lv].toArray 106 (0, 0)) := (hg.block x hl.1 (fun e => h.ne.2.1 e.symm)).trans h.row
  have hnb : W'.heap[nb]? = some (.cells (nums64 nx).toArray 3 (0, 0)) := (hg.block nb hl.2.1 (fun e => h.ne.2.2 e.symm)).trans h.nrow
  have hox : lv'.ownBlock ≠ some x := fun e => by
    rcases hw _ e with h2 | h2
    · exact h.ne.2.1 h2
    · omega
  refine ⟨h.len, set_row (i := 2) hx lv', (heap_setCell_other _ _ _ _ (Ne.symm h.ne.1)).trans hnb, ?_, ?_, ⟨h.ne.1, hox, fun e => ?_⟩, by rw [List.length_append]; simp; omega, h.lo⟩
  · rw [List.length_append, tcells_app, tcells_one]
    exact ownsRow_setCell_other ho (fun e => hox e) _
  · intro y hy
    rcases List.mem_append.1 hy with h2 | h2
    · exact h.wf y h2
    · rw [List.mem_singleton.1 h2]; exact ht
  · rcases hw _ e with h2 | h2
    · exact h.ne.2.2 h2
    · omega
theorem xenter_any (s : ByteArray) (base x nb : Nat) (fl : Int) (nx : List Int) (lv : Value) (ts : List TX) (w : World) (hX : XG w base x fl nx nb lv ts) (hs : s.size ≤ 140737488355328) (hn : ts.length < 1000) (hbs : base ≤ w.heap.size) :
    Calls Tryd.prog 73 #[.pointer (some ⟨x, 0, none⟩), .string s] w fun e w' => (∃ (r : TX) (q : Int), e = .returned (.tuple #[.agg r.cells.toArray, .int .i64 q]) ∧ r.wf) ∧ (∃ lv' ts', XG w' base x fl nx nb lv' ts' ∧ ts'.length ≤ ts.length + 1 ∧ OwnNew w lv lv') ∧ XTurn w w' x nb lv := by
  have hz0 : (w.alloc (.cells Tryd.zeroCells25 25)).heap[w.heap.size]? = some (.cells zlTx.toArray 25 (0, 0)) := heap_alloc_new w _
  have HX0 := Lib.hid (hX.below (bw_alloc (Below.refl _ _) (.cells Tryd.zeroCells25 25)))
  have HASK := Lib.hid (xask_any s base x nb fl nx lv ts _ HX0.out hs)
  have HLT : Hid (x < w.heap.size ∧ nb < w.heap.size ∧ ∀ k, lv.ownBlock = some k → k < w.heap.size) := show _ ∧ _ from hX.lts
  obtain ⟨sq, sc, rfl⟩ := hX.shape
  obtain ⟨sn, hsn⟩ : ∃ n, n = ts.length := ⟨_, rfl⟩
  rw [← hsn] at HX0 HLT ⊢
  have HSN := Lib.hid hsn
  have HX := Lib.hid hX
  rw [← hsn] at HX
  rw [← hsn] at hn
  clear hX hsn
  go_enter Tryd.func73, Tryd.ntmps73
  go_wp2_with fail
  refine HASK.out.mono ?_
  rintro e w1 ⟨⟨t, q, rfl, htw, hfr⟩, hb1⟩
  have HT := Lib.hid htw
  have HFR := Lib.hid hfr
  have HTL : Hid (t.cells.length = zlTx.length) := show _ = _ from t.cells_length HT.out.by_ HT.out.tag
  have hz1 := keep_row hb1 hz0
  have hB0 := bw_call (bw_alloc (Below.refl w.heap.size w) _) hb1
  have hz2 : (w1.alloc (.cells Tryd.zeroCells25 25)).heap[w1.heap.size]? = some (.cells zlTx.toArray 25 (0, 0)) := heap_alloc_new w1 _
  have hn2 : w.heap.size ≠ w1.heap.size := Nat.ne_of_lt (block_lt hz1)
  have hz3 := (Below.heap_alloc w1 (.cells Tryd.zeroCells25 25) _ (block_lt hz1)).trans hz1
  have HB1 := Lib.hid (bw_alloc hB0 (.cells Tryd.zeroCells25 25))
  have hle := hB0.size
  have hw1 : w.heap.size < w1.heap.size := block_lt hz1
  clear hb1 hz0 hz1 hB0 HASK htw hfr
  by_cases hq : q = 0
  · subst hq
    have HF := Lib.hid (HFR.out rfl)
    go_upto_region 3 with ((with_reducible refine wpList_store_whole rfl 25 (.tmp 6) (.tmp 12) rfl w1.heap.size t.cells zlTx 25 rfl rfl hz2 HTL.out (tx_info HT.out) (start_one _) ?_); intro w2 hU2)
    have hg0 := hU2.out.at_
    have hz4 := (hU2.out.other _ hn2).trans hz3
    have HB2 := Lib.hid (hU2.out.below HB1.out hle)
    have HX2 := Lib.hid (HX.out.below HB2.out)
    clear hU2 hz2 hz3 HB1
    generalize w1.heap.size = b6 at *
    have hc0 := HX2.out.c2
    have hown := HX2.out.own
    have hrowl : w2.heap[x]? = some (.cells [Value.int .i64 fl, .slice (some ⟨nb, 0, none⟩) 64 64, .slice sq sn sc].toArray 106 (0, 0)) := HX2.out.row
    have hbs2 : base ≤ w2.heap.size := Nat.le_trans hbs HB2.out.size
    have hwg : some b6 ≠ (Value.slice sq sn sc).ownBlock := fun e => by have := HLT.out.2.2 _ e.symm; omega
    have hwz : some w.heap.size ≠ (Value.slice sq sn sc).ownBlock := fun e => by have := HLT.out.2.2 _ e.symm; omega
    have hlg : some x ≠ (Value.slice sq sn sc).ownBlock := fun e => HX2.out.ne.2.1 e.symm
    have hxb : x ≠ b6 ∧ x ≠ w.heap.size := by have := HLT.out.1; omega
    have KEEP : Hid (∀ W : World, W.heap[b6]? = some (.cells t.cells.toArray 25 (0, 0)) → W.rangeAt b6 0 t.cells) := show ∀ W : World, _ from fun W h2 => range_row h2 (by simp)
    have hu : Tryd.prog.underlying 25 = some _ := Tryd.underlying25
    have hg1 : w2.drew.heap[b6]? = some (.cells t.cells.toArray 25 (0, 0)) := hg0
    have hc1 : w2.drew.cell? ⟨x, 2, none⟩ = some (.slice sq sn sc) := hc0
    have hbA : Below w2.heap.size w2 (w2.drew.alloc (.cells t.cells.toArray 25)) := bw_alloc (Below.refl _ _).drew _
    have hg2 := (hbA.block _ (block_lt hg0)).trans hg0
    have hc2 := (hbA.cell (block_of_cell hc0)).trans hc0
    have hc3 : (w2.alloc (.cells t.cells.toArray 25)).cell? ⟨x, 2, none⟩ = some (.slice sq sn sc) := hc2
    have hown2 : w2.drew.ownsRow base 25 72 (.slice sq sn sc) ts.length (tcells ts) := hown
    refine wp_region_held_drew (S := fun W => W.rangeAt b6 0 t.cells) (by kernel_rfl) (KEEP.out _ hg1) (fun hHeld => ?_)
    refine rg_gen (i := 0) (v := ?_) rfl (by kernel_rfl) (by kernel_rfl) (by kernel_rfl) (fun _ _ _ h => h) rfl (by rfl) ?_ (by assumption) ?_
    rotate_left
    · intro w hSw
      try dsimp only at hSw
      go_simp
      try with_reducible rfl
    try simp only [Act.put, List.setIfInBounds_toArray, List.set_cons_zero, List.set_cons_succ]
    refine rg_gen (i := 1) (v := ?_) rfl (by kernel_rfl) (by kernel_rfl) (by kernel_rfl) (fun _ _ _ h => h) rfl (by rfl) ?_ (by assumption) ?_
    rotate_left
    · intro w hSw
      try dsimp only at hSw
      go_simp
      try with_reducible rfl
    try simp only [Act.put, List.setIfInBounds_toArray, List.set_cons_zero, List.set_cons_succ]
    refine rg_gen (i := 2) (v := ?_) rfl (by kernel_rfl) (by kernel_rfl) (by kernel_rfl) (fun _ _ _ h => h) rfl (by rfl) ?_ (by assumption) ?_
    rotate_left
    · intro w hSw
      try dsimp only at hSw
      go_simp
      try with_reducible rfl
    try simp only [Act.put, List.setIfInBounds_toArray, List.set_cons_zero, List.set_cons_succ]
    refine rg_gen (i := 3) (v := ?_) rfl (by kernel_rfl) (by kernel_rfl) (by kernel_rfl) (fun _ _ _ h => h) rfl (by rfl) ?_ (by assumption) ?_
    rotate_left
    · intro w hSw
      try dsimp only at hSw
      go_simp
      try with_reducible rfl
    try simp only [Act.put, List.setIfInBounds_toArray, List.set_cons_zero, List.set_cons_succ]
    refine rg_row (i := 5) rfl (by kernel_rfl) (by kernel_rfl) (by kernel_rfl) (fun _ _ _ _ h => h) rfl (by rfl) 25 (.tmp 6) rfl b6 0 t.cells rfl (fun W h => h) hu rfl (tx_info HT.out) (by assumption) ?_
    try simp only [Act.put, List.setIfInBounds_toArray, List.set_cons_zero, List.set_cons_succ]
    refine wpAnyH_ready (rs := [4, 6]) (by kernel_rfl) (by simp) ?_
    refine AllReadyH.cons rfl (fun K hK => ?_) (AllReadyH.cons rfl (fun K hK => ?_) AllReadyH.nil)
    go_simp
    refine hK.out _ _ (KEEP.out _ hg1) (fun hHeld1 => ?_)
    clear hK K
    try simp only [Act.put, List.setIfInBounds_toArray, List.set_cons_zero, List.set_cons_succ]
    refine rg_one (i := 6) (by kernel_rfl) rfl (fun K hK => ?_)
    rw [if_pos (by rfl)]
    refine wp_buildSlice 104 25 1 #[(0, .tmp 21)] rfl t.cells.toArray _ (.agg zlTx.toArray) Tryd.underlying104 txinfo rfl (by decide) (by decide) (by simp only [List.map_toArray, List.map_cons, List.map_nil]; exact txa_fill HT.out) ?_
    refine hK.out _ _ (KEEP.out _ hg2) (fun hHeld1 => ?_)
    clear hK K
    rotate_left
    rw [if_pos (by rfl)]
    refine wp_buildSlice 104 25 1 #[(0, .tmp 21)] rfl t.cells.toArray _ (.agg zlTx.toArray) Tryd.underlying104 txinfo rfl (by decide) (by decide) (by simp only [List.map_toArray, List.map_cons, List.map_nil]; exact txa_fill HT.out) ?_
    refine hK.out _ _ (KEEP.out _ hg2) (fun hHeld1 => ?_)
    clear hK K
    try simp only [Act.put, List.setIfInBounds_toArray]
    refine rg_one (i := 4) (by kernel_rfl) rfl (fun K hK => ?_)
    go_simp
    refine hK.out _ _ (KEEP.out _ hg2) (fun hHeld1 => ?_)
    clear hK K
    all_goals
      try simp only [Act.put, List.setIfInBounds_toArray]
      refine rg_one (i := 7) (by kernel_rfl) rfl (fun K hK => ?_)
      rw [if_pos (by rfl)]
      refine wp_append_own2 (.tmp 20) (.tmp 22) 104 rfl base 25 _ (.agg zlTx.toArray) 72 136 Tryd.underlying104 txinfo rfl rfl rfl rfl (by decide) _ ts.length _ (by rfl) (hown2.alloc _) ⟨w2.heap.size, 0, none⟩ 1 1 t.cells (by rfl) (t.cells_length HT.out.by_ HT.out.tag) (rowat (heap_alloc_new w2.drew _)) (start_one _) (by unfold maxLen; have := HSN.out; omega) (by have := HSN.out; omega) (Nat.le_trans hbs2 hbA.size) ?_
      intro v5 w5 hO5 hg5 hnw
      obtain ⟨q5, n5, c5, rfl⟩ := own_shape hO5
      have HNW : Hid (OwnNew w2 (.slice sq sn sc) (.slice q5 n5 c5)) := show OwnNew _ _ _ from fun k hk => (hnw k hk).imp id (fun h => Nat.le_trans hbA.size h)
      have hG5 : w2.grownBy w5 (Value.slice sq sn sc).ownBlock := ⟨hg5.os, hg5.tape, hg5.output, Nat.le_trans hbA.size hg5.size, fun k hk h2 => (hg5.block k (Nat.lt_of_lt_of_le hk hbA.size) h2).trans (hbA.block k hk)⟩
      have hrow5 : w5.heap[x]? = some (.cells [Value.int .i64 fl, .slice (some ⟨nb, 0, none⟩) 64 64, .slice sq sn sc].toArray 106 (0, 0)) := (hG5.block x (block_lt hrowl) hlg).trans hrowl
      have hbox5 : w5.heap[b6]? = some (.cells t.cells.toArray 25 (0, 0)) := (hG5.block _ (block_lt hg0) hwg).trans hg0
      have hz5 : w5.heap[w.heap.size]? = some (.cells zlTx.toArray 25 (0, 0)) := (hG5.block _ (block_lt hz4) hwz).trans hz4
      have hc5 : w5.cell? ⟨x, 2, none⟩ = some (.slice sq sn sc) := by rw [cell_of_row w5 x 2 _ _ _ hrow5]; rfl
      have hf5 : w5.frozen? ⟨x, 2, none⟩ = false := frozen_of_row w5 x 2 _ _ hrow5
      refine hK.out _ _ (KEEP.out _ hbox5) (fun hHeld2 => ?_)
      clear hK K
      try simp only [Act.put, List.setIfInBounds_toArray]
      refine rg_gen (i := 8) (v := ?_) rfl (by kernel_rfl) (by kernel_rfl) (by kernel_rfl) (fun _ _ _ h => h) rfl (by rfl) ?_ (by assumption) ?_
      rotate_left
      · intro w hSw
        try dsimp only at hSw
        go_simp
        try with_reducible rfl
      try simp only [Act.put, List.setIfInBounds_toArray, List.set_cons_zero, List.set_cons_succ]
      refine rg_gen (i := 9) (v := ?_) rfl (by kernel_rfl) (by kernel_rfl) (by kernel_rfl) (fun _ _ _ h => h) rfl (by rfl) ?_ (by assumption) ?_
      rotate_left
      · intro w hSw
        try dsimp only at hSw
        go_simp
        try with_reducible rfl
      try simp only [Act.put, List.setIfInBounds_toArray, List.set_cons_zero, List.set_cons_succ]
      refine rg_one (i := 10) (by kernel_rfl) rfl (fun K hK => ?_)
      go_simp
      have hbox6 : (w5.setCell ⟨x, 2, none⟩ (.slice q5 n5 c5)).heap[b6]? = some (.cells t.cells.toArray 25 (0, 0)) := (heap_setCell_other _ _ _ _ (Ne.symm hxb.1)).trans hbox5
      have hz6 : (w5.setCell ⟨x, 2, none⟩ (.slice q5 n5 c5)).heap[w.heap.size]? = some (.cells zlTx.toArray 25 (0, 0)) := (heap_setCell_other _ _ _ _ (Ne.symm hxb.2)).trans hz5
      refine hK.out _ _ (KEEP.out _ hbox6) (fun hHeld3 => ?_)
      clear hK K
      refine wpAnyH_done (by kernel_rfl) ?_ _
      have hX6 := HX2.out.put ⟨HT.out, HF.out⟩ (by have := HSN.out; omega) hO5 hG5 HNW.out rfl
      have hT6 : XTurn w2 (w5.setCell ⟨x, 2, none⟩ (.slice q5 n5 c5)) x nb (.slice sq sn sc) :=
        ⟨hG5.os, hG5.tape, hG5.output, Nat.le_trans hG5.size (by simp [World.setCell]), fun k hk h1 _ h3 => (heap_setCell_other _ _ _ _ h1).trans (hG5.block k hk h3)⟩
      have HX6 := Lib.hid hX6
      have HT6 := Lib.hid (XTurn.after HB2.out hT6)
      have HNW6 : Hid (OwnNew w (.slice sq sn sc) (.slice q5 n5 c5)) := show OwnNew _ _ _ from fun k hk => (HNW.out k hk).imp id (fun h => Nat.le_trans HB2.out.size h)
      have HLV : Hid ((Value.slice q5 n5 c5).ownBlock ≠ some w.heap.size ∧ (Value.slice q5 n5 c5).ownBlock ≠ some b6) := show _ ∧ _ from ⟨fun e => by
        rcases HNW.out _ e with h2 | h2
        · exact hwz h2.symm
        · have := block_lt hz4; omega, fun e => by
        rcases HNW.out _ e with h2 | h2
        · exact hwg h2.symm
        · have := block_lt hg0; omega⟩
      clear hX6 hT6 hbox5 hrow5 hc5 hf5 hO5 hg5 hG5 hHeld hHeld1 hHeld2 hHeld3 hown hown2 hg0 hg1 hg2 hc0 hc1 hc2 hc3 hbA KEEP hrowl hwg hlg hwz hz4 hz5 hnw HNW
      generalize w5.setCell ⟨x, 2, none⟩ (.slice q5 n5 c5) = W6 at *
      go_wp2_with (first
        | (with_reducible refine wpList_load_rows rfl 25 (.tmp 6) rfl b6 0 t.cells t.cells 25 (0, 0) _ rfl hbox6 id_at Tryd.underlying25 rfl (tx_info HT.out) ?_)
        | ((with_reducible refine wpList_store_whole rfl 25 (.tmp 4) (.tmp 26) rfl w.heap.size t.cells zlTx 25 rfl rfl hz6 HTL.out (tx_info HT.out) (start_one _) ?_); intro w7 hU7))
      have hX7 : XG w7 base x fl nx nb (.slice q5 n5 c5) (ts ++ [t]) := by
        have hx := HX6.out
        exact ⟨hx.len, (hU7.out.other x hxb.2).trans hx.row, (hU7.out.other nb (by have := HLT.out.2.1; omega)).trans hx.nrow, own_other hx.own (fun k hk => hU7.out.other _ (fun e => HLV.out.1 (by rw [← e]; exact hk))), hx.wf, hx.ne, hx.small, hx.lo⟩
      exact post_cell_tmp 4 5 25 rfl w.heap.size _ t.cells _ _ hU7.out.at_ Tryd.underlying25 rfl (tx_info HT.out) (.int .i64 0) rfl rfl rfl ⟨⟨t, 0, rfl, HT.out⟩, ⟨_, _, hX7, by rw [List.length_append, ← HSN.out]; simp, HNW6.out⟩, HT6.out.upd hU7.out (.inl (Nat.le_refl _))⟩
  · have hd1 : (q == 0) = false := by simpa using hq
    clear hq
    go_wp2_with (first
      | ((with_reducible refine wpList_store_whole rfl 25 (.tmp 6) (.tmp 12) rfl w1.heap.size t.cells zlTx 25 rfl rfl hz2 HTL.out (tx_info HT.out) (start_one _) ?_); intro w2 hU2; have hT2 := hU2.out.at_; have hz4 := (hU2.out.other _ hn2).trans hz3; have HB2 := Lib.hid (hU2.out.below HB1.out hle); clear hz2 hz3)
      | (with_reducible refine wpList_load_rows rfl 25 (.tmp 6) rfl w1.heap.size 0 t.cells t.cells 25 (0, 0) _ rfl hT2 id_at Tryd.underlying25 rfl (tx_info HT.out) ?_)
      | ((with_reducible refine wpList_store_whole rfl 25 (.tmp 4) (.tmp 26) rfl w.heap.size t.cells zlTx 25 rfl rfl hz4 HTL.out (tx_info HT.out) (start_one _) ?_); intro w3 hU3))
    have hBe := hU3.out.below HB2.out (Nat.le_refl _)
    exact post_cell_tmp 4 5 25 rfl w.heap.size _ t.cells _ _ hU3.out.at_ Tryd.underlying25 rfl (tx_info HT.out) (.int .i64 q) rfl rfl rfl ⟨⟨t, q, rfl, HT.out⟩, ⟨_, _, HX.out.below hBe, by rw [← HSN.out]; omega, OwnNew.refl _ _⟩, XTurn.of _ _ _ hBe⟩
end Go.Proofs.YtckfdmkjeocadaaDoor
