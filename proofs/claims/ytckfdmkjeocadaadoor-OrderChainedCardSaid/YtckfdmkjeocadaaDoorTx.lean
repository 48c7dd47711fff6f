/- tx.number, tx.Check: what the calls do. -/
import Derived.Test.YtckfdmkjeocadaaDoorSeal
import Derived.Test.YtckfdmkjeocadaaDoorTxPure
namespace Go.Proofs.YtckfdmkjeocadaaDoor
open Go.RowKit
set_option maxHeartbeats 400000 in
theorem num_any (n : Int) (w : World) : Calls Tryd.prog 67 #[.int .i64 n] w fun e w' => e = .returned (.bool (numOk n)) ∧ w' = w := by
  by_cases h0 : 0 ≤ n
  · by_cases h1 : n ≤ 1099511627776
    · have hf : numOk n = true := by simp [numOk, h0, h1]
      rw [hf]
      go_enter Tryd.func67, Tryd.ntmps67
      go_wp2
      go_ret
      exact ⟨by simp, rfl⟩
    · have hf : numOk n = false := by simp [numOk, h1]
      rw [hf]
      go_enter Tryd.func67, Tryd.ntmps67
      go_wp2
      go_ret
      exact ⟨by simp, rfl⟩
  · have hf : numOk n = false := by simp [numOk, h0]
    rw [hf]
    go_enter Tryd.func67, Tryd.ntmps67
    go_wp2
    go_ret
    exact ⟨rfl, rfl⟩
/-- a boxed transaction -/
def TxAt (w wr : World) (t : TX) : Prop := Below w.heap.size w wr ∧ wr.heap[w.heap.size]? = some (.cells t.cells.toArray 25 (0, 0))
theorem TxAt.start (w : World) (t : TX) : TxAt w (w.alloc (.cells t.cells.toArray 25)) t := ⟨bw_alloc (Below.refl _ _) _, heap_alloc_new _ _⟩
theorem TxAt.cell {w wr : World} {t : TX} (h : TxAt w wr t) (k : Nat) (v : Value) (hk : t.cells[k]? = some v) : wr.cell? ⟨w.heap.size, k, none⟩ = some v := by
  rw [cell_of_row wr w.heap.size k _ _ _ h.2, List.getElem?_toArray]
  exact hk
theorem TxAt.cells {w wr : World} {t : TX} (h : TxAt w wr t) : wr.cell? ⟨w.heap.size, 0, none⟩ = some (.int .i64 t.frm) ∧ wr.cell? ⟨w.heap.size, 1, none⟩ = some (.int .i64 t.nonce) ∧ wr.cell? ⟨w.heap.size, 2, none⟩ = some (.int .i64 t.fee) ∧
    wr.cell? ⟨w.heap.size, 3, none⟩ = some (.int .i64 t.to_) ∧ wr.cell? ⟨w.heap.size, 4, none⟩ = some (.string t.data) ∧ wr.cell? ⟨w.heap.size, 5, none⟩ = some (.bool t.lane) ∧ wr.cell? ⟨w.heap.size, 6, none⟩ = some (.int .i64 t.round) ∧ wr.cell? ⟨w.heap.size, 7, none⟩ = some (.int .i64 t.turn) :=
  ⟨h.cell 0 _ rfl, h.cell 1 _ rfl, h.cell 2 _ rfl, h.cell 3 _ rfl, h.cell 4 _ rfl, h.cell 5 _ rfl, h.cell 6 _ rfl, h.cell 7 _ rfl⟩
theorem TxAt.upd {w w2 : World} {t : TX} {X Y : Obj} (h : TxAt w (w.alloc (.cells t.cells.toArray 25)) t) (hU : Upd ((w.alloc (.cells t.cells.toArray 25)).alloc X) w2 (w.heap.size + 1) Y) : TxAt w w2 t := by
  refine ⟨hU.below (bw_alloc h.1 _) (by omega), ?_⟩
  rw [hU.other _ (by omega), Below.heap_alloc _ _ _ (by simp)]
  exact h.2
theorem lane_len {h : List UInt8} (hl : h.length = 32) (r u : Int) : (laneC r u h).length = zl34.length := by simp only [laneC, List.length_cons, u8s_length, hl]; rfl
theorem lane_zero (w : World) : (zeroValue 95).run Tryd.prog w = .ok (.agg zl34.toArray) w := by kernel_rfl
theorem lane_build (r u : Int) {h : List UInt8} (hl : h.length = 32) (w : World) :
    (Instr.build 95 #[(0, .int .i64 r), (1, .int .i64 u), (2, .agg (u8s h).toArray)]).run Tryd.prog w = .ok (.agg (laneC r u h).toArray) w := by
  refine run_build_struct (places := #[(0, 1), (1, 1), (2, 32)]) w (lane_zero w) Tryd.underlying95 (by kernel_rfl) ?_
  rw [fill_cons (off := 0) (size := 1) rfl rfl (by decide), fill_cons (off := 1) (size := 1) rfl rfl (by simp [splice, Value.cells]), fill_cons (off := 2) (size := 32) rfl (by simp [Value.cells, u8s_length, hl]) (by simp [splice, Value.cells])]
  rw [Instr.fill]
  congr 1
  simp only [Value.cells, splice, u8s_length, hl, laneC, zl34, zl32]
  simp
theorem wpList_build_g {P : Program} {ops : Array Oper} {rest : List Oper} {o : Oper} {a : Act} {w : World} {Q : Exit → Act → World → Prop} (hw : Region.wanted o (yielded ops a.tmps) = true) (t : TypeId) (parts : List (Nat × Operand)) (ho : o.op = .build t parts.toArray) (vs : List (Nat × Value)) (v : Value)
    (hv : parts.map (fun x => (x.1, a.eval x.2)) = vs) (hrun : (Instr.build t vs.toArray).run P w = .ok v w)
    (h : wpList P ops Q rest (a.put o.dst v) w) : wpList P ops Q (o :: rest) a w := by
  refine wpList_step fun K hK => ?_
  rw [if_pos hw]
  unfold Oper.wp execOp
  subst hv
  simp only [ho, List.map_toArray, Sem.run_bind, hrun, Result.andThen_ok, Sem.run_pure]
  exact hK _ _ h
theorem wpList_bin_g {P : Program} {ops : Array Oper} {rest : List Oper} {o : Oper} {a : Act} {w : World} {Q : Exit → Act → World → Prop} (hw : Region.wanted o (yielded ops a.tmps) = true) (op : BinOp) (t t2 : TypeId) (x y : Operand) (ho : o.op = .binOp op t x y t2) (u v r : Value)
    (hx : a.eval x = u) (hy : a.eval y = v) (hg : (eqGuard op t x y u v).run P w = .ok () w) (hrun : (binOp op t u v).run P w = .ok r w)
    (h : wpList P ops Q rest (a.put o.dst r) w) : wpList P ops Q (o :: rest) a w := by
  refine wpList_step fun K hK => ?_
  rw [if_pos hw]
  unfold Oper.wp execOp
  subst hx hy
  simp only [ho, Sem.run_bind, hg, hrun, Result.andThen_ok, Sem.run_pure]
  exact hK _ _ h
theorem lane_build0 (w : World) : (Instr.build 95 #[]).run Tryd.prog w = .ok (.agg zl34.toArray) w := by
  exact run_build_struct (parts := #[]) (places := #[(0, 1), (1, 1), (2, 32)]) w (lane_zero w) Tryd.underlying95 (by kernel_rfl) rfl
theorem eq_hash2 {a b : List UInt8} (ha : a.length = 32) (hb : b.length = 32) (w : World) : (Op.equalIn 9999 23 (.agg (u8s a).toArray) (.agg (u8s b).toArray)).run Tryd.prog w = .ok (decide (a = b)) w :=
  run_equal_u8s Tryd.underlying23 byte_info rfl Tryd.underlying5 (by kernel_rfl) 9997 a b ha hb w
theorem part_int {P : Program} {t : TypeId} {k : IntKind} (hu : P.underlying t = some (.int k)) (cs : List Value) (i : Nat) (v : Value) (hv : cs[i]? = some v) (w : World) : (part t cs.toArray i).run P w = .ok v w := by
  simp [part, isAgg, run_underlying hu, hv]
theorem part_hash (cs : List Value) (i : Nat) (h : List UInt8) (hc : (cs.drop i).take 32 = u8s h) (w : World) : (part 23 cs.toArray i).run Tryd.prog w = .ok (.agg (u8s h).toArray) w := by
  have hi : (Tryd.prog.info? 23).map (·.size) = some 32 := by kernel_rfl
  obtain ⟨I, hI, hs⟩ : ∃ I, Tryd.prog.info? 23 = some I ∧ I.size = 32 := by
    cases hx : Tryd.prog.info? 23 with
    | none => rw [hx] at hi; simp at hi
    | some I => exact ⟨I, rfl, by rw [hx] at hi; simpa using hi⟩
  simp only [part, isAgg, Sem.run_bind, run_underlying Tryd.underlying23, Result.andThen_ok, sizeOf, typeInfo, run_program, hI, Sem.run_pure, hs, if_true]
  rw [List.extract_toArray, ← hc]
  simp
theorem lane_eq (r u : Int) {h : List UInt8} (hl : h.length = 32) (w : World) : (Op.equalIn 10000 95 (.agg (laneC r u h).toArray) (.agg zl34.toArray)).run Tryd.prog w = .ok (decide (r = 0 ∧ u = 0 ∧ h = z32)) w := by
  rw [run_equalIn_struct w 9999 _ _ _ (by simp only [Program.fieldsOf, Tryd.underlying95]) (by kernel_rfl)]
  simp only [Program.fieldsOf, Tryd.underlying95, Op.eqFields]
  rw [if_pos (by decide), if_pos (by decide), if_pos (by decide)]
  have a0 := part_int Tryd.underlying3 (laneC r u h) 0 (.int .i64 r) rfl
  have a1 := part_int Tryd.underlying3 (laneC r u h) 1 (.int .i64 u) rfl
  have b0 := part_int Tryd.underlying3 zl34 0 (.int .i64 0) rfl
  have b1 := part_int Tryd.underlying3 zl34 1 (.int .i64 0) rfl
  have a2 := part_hash (laneC r u h) 2 h (by simp only [laneC, List.drop_succ_cons, List.drop_zero]; rw [List.take_of_length_le (by rw [u8s_length, hl]; exact Nat.le_refl _)])
  have b2 := part_hash zl34 2 z32 rfl
  have e3 := eq_hash2 hl z32_length
  have i1 : ∀ (a b : Int) (w : World), (Op.equalIn 9999 3 (.int .i64 a) (.int .i64 b)).run Tryd.prog w = .ok (a == b) w := fun a b w => run_equalIn_int w 9998 _ _ _ a b Tryd.underlying3
  simp only [Sem.run_bind, Sem.run_ite, Sem.run_pure, a0, a1, a2, b0, b1, b2, e3, i1, Result.andThen_ok]
  by_cases h0 : r = 0
  · by_cases h1 : u = 0
    · by_cases h2 : h = z32
      · simp [h0, h1, h2]
      · simp [h0, h1, h2]
    · simp [h0, h1]
  · simp [h0]
theorem lane_neq (r u : Int) {h : List UInt8} (hl : h.length = 32) (w : World) : (binOp .neq 95 (.agg (laneC r u h).toArray) (.agg zl34.toArray)).run Tryd.prog w = .ok (.bool !(decide (r = 0 ∧ u = 0 ∧ h = z32))) w := by
  rw [run_neq_struct, lane_eq r u hl]
  rfl
theorem lane_guard (x y : Operand) (xs ys : Array Value) (w : World) : (eqGuard .neq 95 x y (.agg xs) (.agg ys)).run Tryd.prog w = .ok () w := run_eqGuard_agg w .neq _ x y xs ys (by kernel_rfl)
theorem lane_info {h : List UInt8} (hl : h.length = 32) (r u : Int) : (Tryd.prog.info? 95).map (·.size) = some (laneC r u h).length := by simp only [laneC, List.length_cons, u8s_length, hl]; kernel_rfl
theorem lane_one (r u : Int) (h : List UInt8) : ∀ v ∈ laneC r u h, v.oneCell' = true := by
  intro v hv
  simp only [laneC, List.mem_cons] at hv
  rcases hv with rfl | rfl | hv
  · rfl
  · rfl
  · exact u8s_one _ v hv
theorem chk_ret {a b : Int} (h : b = a) : Ending.returned (Value.int .i64 a) = .returned (.int .i64 b) := by rw [h]
set_option maxHeartbeats 1000000 in
set_option maxRecDepth 4000 in
theorem check_any (t : TX) (w : World) (ht : t.wf) :
    Calls Tryd.prog 21 #[.agg t.cells.toArray] w fun e w' => e = .returned (.int .i64 t.chk) ∧ Below w.heap.size w w' := by
  have HT := Lib.hid ht
  have hA0 := TxAt.start w t
  obtain ⟨c0, c1, c2, c3, c4, c5, c6, c7⟩ := hA0.cells
  clear c0 c1 c2 c3 c4 c5
  have hg0 := hA0.2
  have HA0 := Lib.hid hA0
  have hbl := fun W => lane_build t.round t.turn HT.out.by_ W
  have hz1 : ((w.alloc (.cells t.cells.toArray 25)).alloc (.cells zl34.toArray 95)).heap[w.heap.size + 1]? = some (.cells zl34.toArray 95 (0, 0)) := heap_alloc2_new w _ _
  clear ht hA0
  cases hln : t.lane
  · have HLN := Lib.hid hln
    clear hln
    go_enter Tryd.func21, Tryd.ntmps21
    go_wp2_with (first
      | (with_reducible refine wpList_load_rows rfl 23 (.tmp 8) rfl w.heap.size 8 (u8s t.by_) t.cells 25 (0, 0) _ rfl hg0 TX.at_by Tryd.underlying23 rfl (hash_info HT.out.by_) ?_)
      | (with_reducible refine wpList_build rfl 95 [(0, .tmp 5), (1, .tmp 7), (2, .tmp 9)] rfl [(0, .int .i64 t.round), (1, .int .i64 t.turn), (2, .agg (u8s t.by_).toArray)] (.agg (laneC t.round t.turn t.by_).toArray) rfl (hbl _) ?_)
      | ((with_reducible refine wpList_store_whole rfl 95 (.tmp 3) (.tmp 10) rfl (w.heap.size + 1) (laneC t.round t.turn t.by_) zl34 95 rfl rfl hz1 (lane_len HT.out.by_ _ _) (lane_info HT.out.by_ _ _) (lane_one _ _ _) ?_); intro w2 hU; have hA2 := HA0.out.upd hU.out; obtain ⟨d0, d1, d2, d3, d4, d5, d6, d7⟩ := hA2.cells; rw [HLN.out] at d5; have HA2 := Lib.hid hA2; clear hA2 c6 c7 hbl hz1 hg0)
      | (with_reducible refine wpList_load_rows_g (by kernel_rfl) 95 (.tmp 3) rfl (w.heap.size + 1) 0 (laneC t.round t.turn t.by_) (laneC t.round t.turn t.by_) 95 (0, 0) _ rfl hU.out.at_ id_at Tryd.underlying95 rfl (lane_info HT.out.by_ _ _) ?_)
      | (with_reducible refine wpList_build_g (by kernel_rfl) 95 [] rfl [] (.agg zl34.toArray) rfl (lane_build0 _) ?_)
      | (with_reducible refine wpList_bin_g (by kernel_rfl) .neq 95 95 (.tmp 59) (.tmp 60) rfl (.agg (laneC t.round t.turn t.by_).toArray) (.agg zl34.toArray) (.bool !(decide (t.round = 0 ∧ t.turn = 0 ∧ t.by_ = z32))) rfl rfl (lane_guard _ _ _ _ _) (lane_neq _ _ HT.out.by_ _) ?_)
      | (go_at_call 67; refine (num_any _ _).mono ?_; rintro e w' ⟨rfl, rfl⟩))
    go_ways
    all_goals (go_ret; refine ⟨?_, HA2.out.1⟩; refine chk_ret ?_; have hln := HLN.out; clear HT HA0 HA2 HLN d0 d1 d2 d3 d4 d5 d6 d7 hU)
    all_goals first
      | exact TX.chk_who (by omega)
      | (refine TX.chk_num (by omega) ?_; simp_all; done)
      | (refine TX.chk_lane (by omega) ?_ ?_ ?_ ?_ <;> simp_all; done)
      | (refine TX.chk_none (by omega) ?_ ?_ ?_ ?_ <;> simp_all; done)
      | (refine TX.chk_none2 (by omega) ?_ ?_ ‹_› ‹_› <;> simp_all; done)
      | (refine TX.chk_data (by omega) ?_ ?_ ?_ ?_ <;> simp_all [TX.lok]; done)
      | (refine TX.chk_ok (by omega) ?_ ?_ ?_ ?_ <;> simp_all [TX.lok]; done)
  · have HLN := Lib.hid hln
    clear hln
    go_enter Tryd.func21, Tryd.ntmps21
    go_wp2_with (first
      | (with_reducible refine wpList_load_rows rfl 23 (.tmp 8) rfl w.heap.size 8 (u8s t.by_) t.cells 25 (0, 0) _ rfl hg0 TX.at_by Tryd.underlying23 rfl (hash_info HT.out.by_) ?_)
      | (with_reducible refine wpList_build rfl 95 [(0, .tmp 5), (1, .tmp 7), (2, .tmp 9)] rfl [(0, .int .i64 t.round), (1, .int .i64 t.turn), (2, .agg (u8s t.by_).toArray)] (.agg (laneC t.round t.turn t.by_).toArray) rfl (hbl _) ?_)
      | ((with_reducible refine wpList_store_whole rfl 95 (.tmp 3) (.tmp 10) rfl (w.heap.size + 1) (laneC t.round t.turn t.by_) zl34 95 rfl rfl hz1 (lane_len HT.out.by_ _ _) (lane_info HT.out.by_ _ _) (lane_one _ _ _) ?_); intro w2 hU; have hA2 := HA0.out.upd hU.out; obtain ⟨d0, d1, d2, d3, d4, d5, d6, d7⟩ := hA2.cells; rw [HLN.out] at d5; have HA2 := Lib.hid hA2; clear hA2 c6 c7 hbl hz1 hg0)
      | (go_at_call 67; refine (num_any _ _).mono ?_; rintro e w' ⟨rfl, rfl⟩))
    go_ways
    all_goals (go_ret; refine ⟨?_, HA2.out.1⟩; refine chk_ret ?_; have hln := HLN.out; clear HT HA0 HA2 HLN d0 d1 d2 d3 d4 d5 d6 d7 hU)
    all_goals first
      | exact TX.chk_who (by omega)
      | (refine TX.chk_num (by omega) ?_; simp_all; done)
      | (refine TX.chk_lane (by omega) ?_ ?_ ?_ ?_ <;> simp_all; done)
      | (refine TX.chk_none (by omega) ?_ ?_ ?_ ?_ <;> simp_all; done)
      | (refine TX.chk_none2 (by omega) ?_ ?_ ‹_› ‹_› <;> simp_all; done)
      | (refine TX.chk_data (by omega) ?_ ?_ ?_ ?_ <;> simp_all [TX.lok]; done)
      | (refine TX.chk_ok (by omega) ?_ ?_ ?_ ?_ <;> simp_all [TX.lok]; done)
end Go.Proofs.YtckfdmkjeocadaaDoor
