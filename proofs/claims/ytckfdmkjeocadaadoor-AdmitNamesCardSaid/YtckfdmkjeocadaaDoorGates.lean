/- A gate of the package admit, nil or not: what the calls do. -/
import Derived.Test.YtckfdmkjeocadaaDoorAwake04
import Derived.Maps.OwnOps
import Derived.Maps.OwnSet
import Derived.Maps.Views
import Derived.Deep.QuietTactic
import Derived.BigQuiet
import Derived.StillTailTactics
import Derived.Test.YtckfdmkjeocadaaDoorBuf
namespace Go.Proofs.YtckfdmkjeocadaaDoor
open Go.RowKit
set_option maxHeartbeats 1000000
set_option maxRecDepth 4000
theorem ask_nil (s : ByteArray) (w : World) :
    Calls Tryd.prog 34 #[.pointer none, .string s] w fun e w' => e = .returned (.tuple #[.agg TX.zero.cells.toArray, .int .i64 1]) ∧ Below w.heap.size w w' := by
  have hz0 : (w.alloc (.cells Tryd.zeroCells25 25)).heap[w.heap.size]? = some (.cells zlTx.toArray 25 (0, 0)) := heap_alloc_new w _
  go_enter Tryd.func34, Tryd.ntmps34
  go_wp2_with (first
    | (with_reducible refine wpList_build rfl 25 [] rfl [] (.agg zlTx.toArray) rfl (tx_build0 _) ?_)
    | ((with_reducible refine wpList_store_whole rfl 25 (.tmp 4) (.tmp 10) rfl w.heap.size zlTx zlTx 25 rfl rfl hz0 rfl zlTx_info zlTx_one ?_); intro w2 hU))
  exact post_cell_tmp 4 5 25 rfl w.heap.size _ zlTx _ _ hU.out.at_ Tryd.underlying25 rfl zlTx_info (.int .i64 1) rfl rfl rfl ⟨rfl, hU.out.below (bw_alloc (Below.refl _ _) _) (Nat.le_refl _)⟩
theorem enter_nil (s : ByteArray) (w : World) :
    Calls Tryd.prog 35 #[.pointer none, .string s] w fun e w' => e = .returned (.tuple #[.agg TX.zero.cells.toArray, .int .i64 1]) ∧ Below w.heap.size w w' := by
  have hz0 : (w.alloc (.cells Tryd.zeroCells25 25)).heap[w.heap.size]? = some (.cells zlTx.toArray 25 (0, 0)) := heap_alloc_new w _
  go_enter Tryd.func35, Tryd.ntmps35
  go_wp2_with fail
  refine (ask_nil s _).mono ?_
  rintro e w1 ⟨rfl, hb1⟩
  have hz1 := (hb1.block _ (block_lt hz0)).trans hz0
  have HB1 := Lib.hid (bw_call (bw_alloc (Below.refl w.heap.size w) _) hb1)
  have hz2 : (w1.alloc (.cells Tryd.zeroCells25 25)).heap[w1.heap.size]? = some (.cells zlTx.toArray 25 (0, 0)) := heap_alloc_new w1 _
  have hne : w.heap.size ≠ w1.heap.size := Nat.ne_of_lt (block_lt hz1)
  have hz3 := (Below.heap_alloc w1 (.cells Tryd.zeroCells25 25) _ (block_lt hz1)).trans hz1
  have hle := HB1.out.size
  clear hb1 hz0 hz1
  go_wp2_with (first
    | ((with_reducible refine wpList_store_whole rfl 25 (.tmp 6) (.tmp 12) rfl w1.heap.size TX.zero.cells zlTx 25 rfl rfl hz2 rfl (tx_info TX.zero_wf) (start_one _) ?_); intro w2 hU2; have hT2 := hU2.out.at_; have hz4 := (hU2.out.other _ hne).trans hz3; have HB2 := Lib.hid (hU2.out.below (bw_alloc HB1.out _) hle); clear hz2 hz3)
    | (with_reducible refine wpList_load_rows rfl 25 (.tmp 6) rfl w1.heap.size 0 TX.zero.cells TX.zero.cells 25 (0, 0) _ rfl hT2 id_at Tryd.underlying25 rfl (tx_info TX.zero_wf) ?_)
    | ((with_reducible refine wpList_store_whole rfl 25 (.tmp 4) (.tmp 21) rfl w.heap.size TX.zero.cells zlTx 25 rfl rfl hz4 rfl (tx_info TX.zero_wf) (start_one _) ?_); intro w3 hU3))
  exact post_cell_tmp 4 5 25 rfl w.heap.size _ TX.zero.cells _ _ hU3.out.at_ Tryd.underlying25 rfl (tx_info TX.zero_wf) (.int .i64 1) rfl rfl rfl ⟨rfl, hU3.out.below HB2.out (Nat.le_refl _)⟩
theorem is_nil (t : TX) (w : World) (ht : t.wf) :
    Calls Tryd.prog 77 #[.pointer none, .agg t.cells.toArray] w fun e w' => e = .returned (.tuple #[.string ByteArray.empty, .int .i64 1]) ∧ Below w.heap.size w w' := by
  have HT := Lib.hid ht
  clear ht
  go_enter Tryd.func77, Tryd.ntmps77
  go_wp2_with fail
  go_ret2
  exact ⟨rfl, bw_alloc (Below.refl _ _) _⟩
theorem leave_nil (t : TX) (w : World) (ht : t.wf) :
    Calls Tryd.prog 36 #[.pointer none, .agg t.cells.toArray] w fun e w' => e = .returned (.int .i64 1) ∧ Below w.heap.size w w' := by
  have HT := Lib.hid ht
  have hg0 := heap_alloc_new w (.cells t.cells.toArray 25)
  clear ht
  go_enter Tryd.func36, Tryd.ntmps36
  go_wp2_with (with_reducible refine wpList_load_rows rfl 25 (.tmp 3) rfl w.heap.size 0 t.cells t.cells 25 (0, 0) _ rfl hg0 id_at Tryd.underlying25 rfl (tx_info HT.out) ?_)
  refine (is_nil t _ HT.out).mono ?_
  rintro e w1 ⟨rfl, hb1⟩
  have HB1 := Lib.hid (bw_call (bw_alloc (Below.refl w.heap.size w) _) hb1)
  clear hb1 hg0
  go_wp2_with fail
  go_ret
  exact ⟨rfl, HB1.out⟩
theorem done_nil (t : TX) (w : World) (ht : t.wf) :
    Calls Tryd.prog 37 #[.pointer none, .agg t.cells.toArray] w fun e w' => e = .returned (.int .i64 1) ∧ Below w.heap.size w w' := by
  have HT := Lib.hid ht
  have hg0 := heap_alloc_new w (.cells t.cells.toArray 25)
  clear ht
  go_enter Tryd.func37, Tryd.ntmps37
  go_wp2_with (with_reducible refine wpList_load_rows rfl 25 (.tmp 3) rfl w.heap.size 0 t.cells t.cells 25 (0, 0) _ rfl hg0 id_at Tryd.underlying25 rfl (tx_info HT.out) ?_)
  refine (is_nil t _ HT.out).mono ?_
  rintro e w1 ⟨rfl, hb1⟩
  have HB1 := Lib.hid (bw_call (bw_alloc (Below.refl w.heap.size w) _) hb1)
  clear hb1 hg0
  go_wp2_with fail
  go_ret
  exact ⟨rfl, HB1.out⟩
theorem next_nil (n : Int) (w : World) : Calls Tryd.prog 38 #[.pointer none, .int .i64 n] w fun e w' => e = .returned (.int .i64 0) ∧ w' = w := by
  go_enter Tryd.func38, Tryd.ntmps38
  go_wp2_with fail
  go_ret
  exact ⟨rfl, rfl⟩
theorem in_nil (w : World) : Calls Tryd.prog 33 #[.pointer none] w fun e w' => e = .returned (.int .i64 0) ∧ w' = w := by
  go_enter Tryd.func33, Tryd.ntmps33
  go_wp2_with fail
  go_ret
  exact ⟨rfl, rfl⟩
set_option maxHeartbeats 1000000
set_option maxRecDepth 4000
abbrev zlGate : List Value := [.int .i64 0, .int .i64 0, .int .i64 0, .int .i64 0, .int .i64 0, .int .i64 0, .int .i64 0, .int .i64 0, .int .i64 0, .int .i64 0, .int .i64 0, .int .i64 0, .int .i64 0, .int .i64 0, .int .i64 0, .int .i64 0, .int .i64 0, .int .i64 0, .int .i64 0, .int .i64 0, .int .i64 0, .int .i64 0, .int .i64 0, .int .i64 0, .int .i64 0, .int .i64 0, .int .i64 0, .int .i64 0, .int .i64 0, .int .i64 0, .int .i64 0, .int .i64 0, .int .i64 0, .int .i64 0, .int .i64 0, .int .i64 0, .int .i64 0, .int .i64 0, .int .i64 0, .int .i64 0, .int .i64 0, .int .i64 0, .int .i64 0, .int .i64 0, .int .i64 0, .int .i64 0, .int .i64 0, .int .i64 0, .int .i64 0, .int .i64 0, .int .i64 0, .int .i64 0, .int .i64 0, .int .i64 0, .int .i64 0, .int .i64 0, .int .i64 0, .int .i64 0, .int .i64 0, .int .i64 0, .int .i64 0, .int .i64 0, .int .i64 0, .int .i64 0, .int .i64 0, .map none]
def gcells (fl : Int) (nx : List Int) (mb : Nat) : List Value := .int .i64 fl :: (nx.map (Value.int .i64) ++ [.map (some mb)])
theorem gcells_length {fl : Int} {nx : List Int} {mb : Nat} (h : nx.length = 64) : (gcells fl nx mb).length = 66 := by simp [gcells, h]
/-- a gate in memory: its cells, its map -/
structure GAt (W : World) (g : Nat) (fl : Int) (nx : List Int) (mb n : Nat) (D : DataW Unit) : Prop where
  len : nx.length = 64
  row : W.heap[g]? = some (.cells (gcells fl nx mb).toArray 103 (0, 0))
  own : W.ownsMap Tryd.prog 9 (plainElem Tryd.prog 3) mb n D
  ne : g ≠ mb
theorem owns_below {W W' : World} {mb n : Nat} {D : DataW Unit} {B : Nat} (h : W.ownsMap Tryd.prog 9 (plainElem Tryd.prog 3) mb n D) (hb : Below B W W') (hB : W.heap.size ≤ B) : W'.ownsMap Tryd.prog 9 (plainElem Tryd.prog 3) mb n D := by
  obtain ⟨es, clock, h1, r⟩ := h
  exact ⟨es, clock, (hb.block mb (Nat.lt_of_lt_of_le (block_lt h1) hB)).trans h1, r⟩
theorem GAt.below {W W' : World} {g mb n : Nat} {fl : Int} {nx : List Int} {D : DataW Unit} (h : GAt W g fl nx mb n D) (hb : Below W.heap.size W W') : GAt W' g fl nx mb n D :=
  ⟨h.len, (hb.block _ (block_lt h.row)).trans h.row, owns_below h.own hb (Nat.le_refl _), h.ne⟩
theorem GAt.c0 {W : World} {g mb n : Nat} {fl : Int} {nx : List Int} {D : DataW Unit} (h : GAt W g fl nx mb n D) : W.cell? ⟨g, 0, none⟩ = some (.int .i64 fl) := by
  rw [cell_of_row W g 0 _ _ _ h.row]; rfl
theorem GAt.cn {W : World} {g mb n : Nat} {fl : Int} {nx : List Int} {D : DataW Unit} (h : GAt W g fl nx mb n D) {i : Nat} (hi : i < 64) : W.cell? ⟨g, 1 + i, none⟩ = some (.int .i64 (nx.getD i 0)) := by
  have hl := h.len
  rw [cell_of_row W g _ _ _ _ h.row, List.getElem?_toArray, gcells, Nat.add_comm, List.getElem?_cons_succ, List.getElem?_append_left (by simp; omega), List.getElem?_map, List.getElem?_eq_getElem (by omega)]
  rw [List.getD_eq_getElem?_getD, List.getElem?_eq_getElem (by omega)]
  rfl
theorem GAt.cm {W : World} {g mb n : Nat} {fl : Int} {nx : List Int} {D : DataW Unit} (h : GAt W g fl nx mb n D) : W.cell? ⟨g, 65, none⟩ = some (.map (some mb)) := by
  have hl := h.len
  rw [cell_of_row W g _ _ _ _ h.row, List.getElem?_toArray, gcells, List.getElem?_cons_succ, List.getElem?_append_right (by simp; omega)]
  simp [hl]
theorem gate_zero (w : World) : (zeroValue 103).run Tryd.prog w = .ok (.agg zlGate.toArray) w := by kernel_rfl
theorem gate_build (n : Int) (b : Nat) (w : World) : (Instr.build 103 #[(0, .int .i64 n), (2, .map (some b))]).run Tryd.prog w = .ok (.agg (gcells n zn64 b).toArray) w := by
  refine run_build_struct (places := #[(0, 1), (1, 64), (65, 1)]) w (gate_zero w) Tryd.underlying103 (by kernel_rfl) ?_
  rw [fill_cons (off := 0) (size := 1) rfl rfl (by decide), fill_cons (off := 65) (size := 1) rfl rfl (Nat.le_of_ble_eq_true rfl)]
  rfl
theorem new_any (n : Int) (w : World) (h0 : 0 ≤ n) (h1 : n ≤ 1099511627776) :
    Calls Tryd.prog 29 #[.int .i64 n] w fun e w' => e = .returned (.tuple #[.pointer (some ⟨w.heap.size + 1, 0, none⟩), .int .i64 0]) ∧ GAt w' (w.heap.size + 1) n zn64 w.heap.size 0 (.map []) ∧ Below w.heap.size w w' := by
  have hg1 : decide (n < 0) = false := decide_eq_false (by omega)
  have hg2 : decide (1099511627776 < n) = false := decide_eq_false (by omega)
  have hG : GAt ((w.alloc (.map #[] 0)).alloc (.cells (gcells n zn64 w.heap.size).toArray 103)) (w.heap.size + 1) n zn64 w.heap.size 0 (.map []) := by
    have h := heap_alloc_new (w.alloc (.map #[] 0)) (.cells (gcells n zn64 w.heap.size).toArray 103)
    rw [show (w.alloc (.map #[] 0)).heap.size = w.heap.size + 1 by simp] at h
    exact ⟨rfl, h, owns_below (World.ownsMap_made w Tryd.prog 9 _) (bw_alloc (Below.refl _ _) _) (Nat.le_refl _), by omega⟩
  have HG := Lib.hid hG
  have hmk := run_makeMap (P := Tryd.prog) 100 w
  clear hG
  go_enter Tryd.func29, Tryd.ntmps29
  go_wp2_with (with_reducible refine wpList_build rfl 103 [(0, .tmp 10), (2, .tmp 11)] rfl [(0, .int .i64 n), (2, .map (some w.heap.size))] (.agg (gcells n zn64 w.heap.size).toArray) rfl (gate_build _ _ _) ?_)
  go_ret2
  exact ⟨rfl, HG.out, bw_alloc (bw_alloc (Below.refl _ _) _) _⟩
set_option maxHeartbeats 2000000
set_option maxRecDepth 4000
theorem int_zero (w : World) : (zeroValue 3).run Tryd.prog w = .ok (.int .i64 0) w := by kernel_rfl
theorem key_str {s : ByteArray} (h : s.size ≤ 140737488355328) : Go.keyOf Tryd.prog 9 (.string s) = some (Lit.string s.data.toList) := by
  have h2 : s.size ≤ maxLen := by unfold maxLen; omega
  have h3 : mapKey Tryd.prog 9 (.string s) = some (Lit.string s.data.toList) := by
    unfold mapKey
    rw [Tryd.underlying9]
    show (if s.size ≤ maxLen then _ else _) = _
    rw [if_pos h2]
  unfold Go.keyOf
  rw [Tryd.underlying9]
  exact h3
theorem ask_ok (t : TX) (s : ByteArray) (g mb n : Nat) (fl : Int) (nx : List Int) (D : DataW Unit) (c : Int) (w : World) (hG : GAt w g fl nx mb n D) (hs : s.size ≤ 140737488355328) (hrd : rdTx s = .ok t) (hsg : t.signed = 0) (hf : fl ≤ t.fee) (hn : nx.getD t.frm.toNat 0 ≤ t.nonce)
    (hc : D.atKey (.string s.data.toList) (.lit (.int .i64 0)) = .lit (.int .i64 c)) (hR : RoundsAt w) :
    Calls Tryd.prog 34 #[.pointer (some ⟨g, 0, none⟩), .string s] w fun e w' => e = .returned (.tuple #[.agg (if 0 < c then TX.zero else t).cells.toArray, .int .i64 (if 0 < c then 23 else 0)]) ∧ Below w.heap.size w w' := by
  obtain ⟨htw, htc, hst⟩ := tx_back hrd
  clear hst
  have HT := Lib.hid htw
  have HG := Lib.hid hG
  have HR := Lib.hid hR
  have HRD := Lib.hid hrd
  have HSG := Lib.hid hsg
  have HC := Lib.hid hc
  have HTL : Hid (t.cells.length = zlTx.length) := show _ = _ from t.cells_length HT.out.by_ HT.out.tag
  obtain ⟨⟨⟨⟨z1, z2⟩, z3⟩, z4⟩, hrest⟩ := TX.chk_zero htc
  clear hrest
  have hz0 : (w.alloc (.cells Tryd.zeroCells25 25)).heap[w.heap.size]? = some (.cells zlTx.toArray 25 (0, 0)) := heap_alloc_new w _
  have hgn : g ≠ w.heap.size := Nat.ne_of_lt (block_lt hG.row)
  obtain ⟨r, hr⟩ : ∃ r, r = (if 0 < c then TX.zero else t) := ⟨_, rfl⟩
  obtain ⟨q, hq⟩ : ∃ q : Int, q = (if 0 < c then 23 else 0) := ⟨_, rfl⟩
  rw [← hr, ← hq]
  have HRR := Lib.hid hr
  have HQ := Lib.hid hq
  have HN := Lib.hid hn
  have HF := Lib.hid hf
  clear hG hR hrd hsg hc htw htc hr hq hn hf
  go_enter Tryd.func34, Tryd.ntmps34
  go_wp2_with fail
  refine (read_any s _ hs).mono ?_
  rintro e w1 ⟨rfl, hb1⟩
  rw [HRD.out]
  simp only [txOf, errOf]
  have HZ1 := Lib.hid ((Below.heap_alloc w1 (.cells Tryd.zeroCells25 25) _ (block_lt ((hb1.block _ (block_lt hz0)).trans hz0))).trans ((hb1.block _ (block_lt hz0)).trans hz0))
  have HB1 := Lib.hid (bw_alloc (bw_call (bw_alloc (Below.refl w.heap.size w) (.cells Tryd.zeroCells25 25)) hb1) (.cells Tryd.zeroCells25 25))
  have hz1 : (w1.alloc (.cells Tryd.zeroCells25 25)).heap[w1.heap.size]? = some (.cells zlTx.toArray 25 (0, 0)) := heap_alloc_new w1 _
  have hne : w.heap.size ≠ w1.heap.size := Nat.ne_of_lt (block_lt ((hb1.block _ (block_lt hz0)).trans hz0))
  have hle : w.heap.size ≤ w1.heap.size := Nat.le_trans (by simp) hb1.size
  clear hb1 hz0
  go_wp2_with (first
    | ((with_reducible refine wpList_store_whole rfl 25 (.tmp 6) (.tmp 14) rfl w1.heap.size t.cells zlTx 25 rfl rfl hz1 HTL.out (tx_info HT.out) (start_one _) ?_); intro w2 hU2; have hT2 := hU2.out.at_; have HZ2 := Lib.hid ((hU2.out.other _ hne).trans HZ1.out); have HB2 := Lib.hid (hU2.out.below HB1.out hle); clear hz1)
    | (with_reducible refine wpList_load_rows rfl 25 (.tmp 6) rfl w1.heap.size 0 t.cells t.cells 25 (0, 0) _ rfl hT2 id_at Tryd.underlying25 rfl (tx_info HT.out) ?_))
  refine (signed_any t _ HT.out (HR.out.below HB2.out HR.out.1)).mono ?_
  rintro e w3 ⟨rfl, hb3⟩
  rw [HSG.out]
  have hT3 := (hb3.block _ (block_lt hT2)).trans hT2
  have HZ3 := Lib.hid ((hb3.block _ (block_lt HZ2.out)).trans HZ2.out)
  have HB3 := Lib.hid (bw_call HB2.out hb3)
  have HG3 := Lib.hid (HG.out.below HB3.out)
  clear hb3 hT2
  generalize w1.heap.size = b1 at *
  obtain ⟨fr, hfr⟩ : ∃ fr : Nat, t.frm = (fr : Int) := ⟨t.frm.toNat, by omega⟩
  have hfr64 : fr < 64 := by omega
  obtain ⟨nn, hnn⟩ : ∃ x, x = nx.getD fr 0 := ⟨_, rfl⟩
  have hn2 : nn ≤ t.nonce := by have hn := HN.out; rw [hnn]; rw [hfr] at hn; simpa using hn
  have hd1 : decide (t.fee < fl) = false := decide_eq_false (by have := HF.out; omega)
  have hd2 : decide (t.nonce < nn) = false := decide_eq_false (by omega)
  have k0 : w3.cell? ⟨b1, 0, none⟩ = some (.int .i64 fr) := by rw [← hfr, cell_of_row w3 b1 0 _ _ _ hT3]; rfl
  have k1 : w3.cell? ⟨b1, 1, none⟩ = some (.int .i64 t.nonce) := by rw [cell_of_row w3 b1 1 _ _ _ hT3]; rfl
  have k2 : w3.cell? ⟨b1, 2, none⟩ = some (.int .i64 t.fee) := by rw [cell_of_row w3 b1 2 _ _ _ hT3]; rfl
  have g0 := HG3.out.c0
  have g1 : w3.cell? ⟨g, 1 + fr, none⟩ = some (.int .i64 nn) := by rw [hnn]; exact HG3.out.cn hfr64
  have f0 : (0 : Int) ≤ fr := by omega
  have f1 : (fr : Int) < 64 := by omega
  have HT3 := Lib.hid hT3
  clear hT3 hnn
  go_wp2_with fail
  go_quiet (fail)
  have k0' : (w3.drewN nq).cell? ⟨b1, 0, none⟩ = some (.int .i64 fr) := k0
  have k1' : (w3.drewN nq).cell? ⟨b1, 1, none⟩ = some (.int .i64 t.nonce) := k1
  have g1' : (w3.drewN nq).cell? ⟨g, 1 + fr, none⟩ = some (.int .i64 nn) := g1
  have HT4 : Hid ((w3.drewN nq).heap[b1]? = some (.cells t.cells.toArray 25 (0, 0))) := show _ = _ from HT3.out
  have HZ4 : Hid ((w3.drewN nq).heap[w.heap.size]? = some (.cells zlTx.toArray 25 (0, 0))) := show _ = _ from HZ3.out
  have HB4 := Lib.hid (bw_drewN HB3.out nq)
  have HG4 := Lib.hid (HG3.out.below (bw_drewN (Below.refl _ _) nq))
  clear k0 k1 k2 g0 g1 HT3 HZ3 HB3 HG3
  go_wp2_with fail
  generalize w3.drewN nq = w4 at *
  go_quiet (fail)
  have hT5 : (w4.drewN nq).heap[b1]? = some (.cells t.cells.toArray 25 (0, 0)) := HT4.out
  have hz5 : (w4.drewN nq).heap[w.heap.size]? = some (.cells zlTx.toArray 25 (0, 0)) := HZ4.out
  have HB5 := Lib.hid (bw_drewN HB4.out nq)
  have hG5 := HG4.out.below (bw_drewN (Below.refl _ _) nq)
  have hm5 := hG5.cm
  have hown5 := hG5.own
  have HG5 := Lib.hid hG5
  have HKEY := Lib.hid (key_str hs)
  clear k0' k1' g1' HT4 HZ4 HB4 HG4 hG5
  by_cases hc0 : 0 < c
  · have hr2 : r = TX.zero := by rw [HRR.out, if_pos hc0]
    have hq2 : q = 23 := by rw [HQ.out, if_pos hc0]
    subst hr2 hq2
    have hdc : decide (0 < c) = true := decide_eq_true hc0
    clear hT5
    go_wp2_with (first
      | (at_lookup; refine wpList_lookup_own_int _ rfl (.tmp 49) (.tmp 50) 100 rfl 9 3 .i64 (Maps.string_keyed Tryd.underlying9) Tryd.underlying100 Tryd.underlying3 (int_zero _) mb n D (by rfl) hown5 (.string s) _ (by rfl) HKEY.out ?_; intro c' hat hwc; obtain rfl : c = c' := (by rw [HC.out] at hat; injection hat with hat; injection hat); clear hat hwc)
      | (with_reducible refine wpList_build rfl 25 [] rfl [] (.agg zlTx.toArray) rfl (tx_build0 _) ?_)
      | ((with_reducible refine wpList_store_whole rfl 25 (.tmp 4) (.tmp 53) rfl w.heap.size zlTx zlTx 25 rfl rfl hz5 rfl zlTx_info zlTx_one ?_); intro w6 hU))
    exact post_cell_tmp 4 5 25 rfl w.heap.size _ zlTx _ _ hU.out.at_ Tryd.underlying25 rfl zlTx_info (.int .i64 23) rfl rfl rfl ⟨rfl, hU.out.below HB5.out (Nat.le_refl _)⟩
  · have hr2 : r = t := by rw [HRR.out, if_neg hc0]
    have hq2 : q = 0 := by rw [HQ.out, if_neg hc0]
    subst hr2 hq2
    have hdc : decide (0 < c) = false := decide_eq_false hc0
    go_wp2_with (first
      | (at_lookup; refine wpList_lookup_own_int _ rfl (.tmp 49) (.tmp 50) 100 rfl 9 3 .i64 (Maps.string_keyed Tryd.underlying9) Tryd.underlying100 Tryd.underlying3 (int_zero _) mb n D (by rfl) hown5 (.string s) _ (by rfl) HKEY.out ?_; intro c' hat hwc; obtain rfl : c = c' := (by rw [HC.out] at hat; injection hat with hat; injection hat); clear hat hwc)
      | (with_reducible refine wpList_load_rows rfl 25 (.tmp 6) rfl b1 0 r.cells r.cells 25 (0, 0) _ rfl hT5 id_at Tryd.underlying25 rfl (tx_info HT.out) ?_)
      | ((with_reducible refine wpList_store_whole rfl 25 (.tmp 4) (.tmp 54) rfl w.heap.size r.cells zlTx 25 rfl rfl hz5 HTL.out (tx_info HT.out) (start_one _) ?_); intro w6 hU))
    exact post_cell_tmp 4 5 25 rfl w.heap.size _ r.cells _ _ hU.out.at_ Tryd.underlying25 rfl (tx_info HT.out) (.int .i64 0) rfl rfl rfl ⟨rfl, hU.out.below HB5.out (Nat.le_refl _)⟩
/-- w' is w but for a gate's own blocks, and for new ones -/
structure Turned (W W' : World) (g mb : Nat) : Prop where
  os : W'.os = W.os
  tape : W'.tape = W.tape
  output : W'.output = W.output
  size : W.heap.size ≤ W'.heap.size
  block : ∀ k, k < W.heap.size → k ≠ g → k ≠ mb → W'.heap[k]? = W.heap[k]?
theorem Turned.of {W W' : World} (g mb : Nat) (h : Below W.heap.size W W') : Turned W W' g mb := ⟨h.os, h.tape, h.output, h.size, fun k hk _ _ => h.block k hk⟩
theorem Turned.trans {W W' W'' : World} {g mb : Nat} (h : Turned W W' g mb) (k : Turned W' W'' g mb) : Turned W W'' g mb :=
  ⟨k.os.trans h.os, k.tape.trans h.tape, k.output.trans h.output, Nat.le_trans h.size k.size, fun i hi h1 h2 => (k.block i (Nat.lt_of_lt_of_le hi h.size) h1 h2).trans (h.block i hi h1 h2)⟩
theorem Turned.grown {W W' : World} {g mb : Nat} (h : W.grownBy W' (some mb)) : Turned W W' g mb := ⟨h.os, h.tape, h.output, h.size, fun k hk _ h2 => h.block k hk (fun e => h2 (by injection e))⟩
theorem Turned.upd {W W' : World} {g mb b : Nat} {o : Obj} (h : Upd W W' b o) (hb : W.heap.size ≤ b ∨ b = g ∨ b = mb) : Turned W W' g mb :=
  ⟨h.os, h.tape, h.output, by rw [h.size]; exact Nat.le_refl _, fun k hk h1 h2 => h.other k (by omega)⟩
theorem Turned.below {W W' : World} {g mb B : Nat} (h : Turned W W' g mb) (hB : B ≤ W.heap.size) (hg : B ≤ g) (hm : B ≤ mb) : Below B W W' := ⟨h.os, h.tape, h.output, h.size, fun k hk => h.block k (by omega) (by omega) (by omega)⟩
set_option maxHeartbeats 2000000
set_option maxRecDepth 4000
def rowInt (c : Int) : DataW Unit := .lit (.int .i64 c)
theorem GAt.turned {W W' : World} {g mb n : Nat} {fl : Int} {nx : List Int} {D : DataW Unit} (h : GAt W g fl nx mb n D) {b : Nat} {o : Obj} (hU : Upd W W' b o) (hg : g ≠ b) (hm : mb ≠ b) : GAt W' g fl nx mb n D := by
  obtain ⟨h1, h2, ⟨es, clock, h3, r⟩, h4⟩ := h
  exact ⟨h1, (hU.other _ hg).trans h2, ⟨es, clock, (hU.other _ hm).trans h3, r⟩, h4⟩
theorem GAt.lts {W : World} {g mb n : Nat} {fl : Int} {nx : List Int} {D : DataW Unit} (h : GAt W g fl nx mb n D) : g < W.heap.size ∧ mb < W.heap.size := by
  obtain ⟨h1, h2, ⟨es, clock, h3, r⟩, h4⟩ := h
  exact ⟨block_lt h2, block_lt h3⟩
theorem Turned.then_upd {W W' W'' : World} {g mb b : Nat} {o : Obj} (h : Turned W W' g mb) (hU : Upd W' W'' b o) (hb : W.heap.size ≤ b) : Turned W W'' g mb :=
  ⟨hU.os.trans h.os, hU.tape.trans h.tape, hU.output.trans h.output, by rw [hU.size]; exact h.size, fun k hk h1 h2 => (hU.other k (by omega)).trans (h.block k hk h1 h2)⟩
theorem enter_ok (t : TX) (s : ByteArray) (g mb n : Nat) (fl : Int) (nx : List Int) (D : DataW Unit) (c : Int) (w : World) (hG : GAt w g fl nx mb n D) (hs : s.size ≤ 140737488355328) (hrd : rdTx s = .ok t) (hsg : t.signed = 0) (hf : fl ≤ t.fee) (hn : nx.getD t.frm.toNat 0 ≤ t.nonce)
    (hc : D.atKey (.string s.data.toList) (.lit (.int .i64 0)) = .lit (.int .i64 c)) (hR : RoundsAt w) (hnm : n < maxLen) :
    Calls Tryd.prog 35 #[.pointer (some ⟨g, 0, none⟩), .string s] w fun e w' => e = .returned (.tuple #[.agg (if 0 < c then TX.zero else t).cells.toArray, .int .i64 (if 0 < c then 23 else 0)]) ∧ Turned w w' g mb ∧ (if 0 < c then GAt w' g fl nx mb n D else GAt w' g fl nx mb (n + 1) (D.put (.string s.data.toList) (rowInt 1))) := by
  obtain ⟨htw, htc, hst⟩ := tx_back hrd
  have HT := Lib.hid htw
  have HG := Lib.hid hG
  have HTL : Hid (t.cells.length = zlTx.length) := show _ = _ from t.cells_length HT.out.by_ HT.out.tag
  have hz0 : (w.alloc (.cells Tryd.zeroCells25 25)).heap[w.heap.size]? = some (.cells zlTx.toArray 25 (0, 0)) := heap_alloc_new w _
  have HG0 := Lib.hid (hG.below (bw_alloc (Below.refl _ _) (.cells Tryd.zeroCells25 25)))
  have HASK := Lib.hid (ask_ok t s g mb n fl nx D c _ HG0.out hs hrd hsg hf hn hc (hR.below (bw_alloc (Below.refl _ _) (.cells Tryd.zeroCells25 25)) hR.1))
  have hgn := hG.lts
  have HKEY := Lib.hid (key_str hs)
  have hne := hG.ne
  clear hst hG hR hrd hsg hc htw htc hn hf
  by_cases hc0 : 0 < c
  · simp only [if_pos hc0] at HASK ⊢
    clear hc0
    go_enter Tryd.func35, Tryd.ntmps35
    go_wp2_with fail
    refine HASK.out.mono ?_
    rintro e w1 ⟨rfl, hb1⟩
    have hz1 := (hb1.block _ (block_lt hz0)).trans hz0
    have hB0 := bw_call (bw_alloc (Below.refl w.heap.size w) _) hb1
    have hz2 : (w1.alloc (.cells Tryd.zeroCells25 25)).heap[w1.heap.size]? = some (.cells zlTx.toArray 25 (0, 0)) := heap_alloc_new w1 _
    have hn2 : w.heap.size ≠ w1.heap.size := Nat.ne_of_lt (block_lt hz1)
    have hz3 := (Below.heap_alloc w1 (.cells Tryd.zeroCells25 25) _ (block_lt hz1)).trans hz1
    have HB1 := Lib.hid (bw_alloc hB0 (.cells Tryd.zeroCells25 25))
    have hle := hB0.size
    clear hb1 hz0 hz1 hB0 HASK
    go_wp2_with (first
      | ((with_reducible refine wpList_store_whole rfl 25 (.tmp 6) (.tmp 12) rfl w1.heap.size TX.zero.cells zlTx 25 rfl rfl hz2 rfl (tx_info TX.zero_wf) (start_one _) ?_); intro w2 hU2; have hT2 := hU2.out.at_; have hz4 := (hU2.out.other _ hn2).trans hz3; have HB2 := Lib.hid (hU2.out.below HB1.out hle); clear hz2 hz3)
      | (with_reducible refine wpList_load_rows rfl 25 (.tmp 6) rfl w1.heap.size 0 TX.zero.cells TX.zero.cells 25 (0, 0) _ rfl hT2 id_at Tryd.underlying25 rfl (tx_info TX.zero_wf) ?_)
      | ((with_reducible refine wpList_store_whole rfl 25 (.tmp 4) (.tmp 21) rfl w.heap.size TX.zero.cells zlTx 25 rfl rfl hz4 rfl (tx_info TX.zero_wf) (start_one _) ?_); intro w3 hU3))
    have hBe := hU3.out.below HB2.out (Nat.le_refl _)
    exact post_cell_tmp 4 5 25 rfl w.heap.size _ TX.zero.cells _ _ hU3.out.at_ Tryd.underlying25 rfl (tx_info TX.zero_wf) (.int .i64 23) rfl rfl rfl ⟨rfl, Turned.of g mb hBe, HG.out.below hBe⟩
  · simp only [if_neg hc0] at HASK ⊢
    clear hc0
    go_enter Tryd.func35, Tryd.ntmps35
    go_wp2_with fail
    refine HASK.out.mono ?_
    rintro e w1 ⟨rfl, hb1⟩
    have hz1 := (hb1.block _ (block_lt hz0)).trans hz0
    have hB0 := bw_call (bw_alloc (Below.refl w.heap.size w) _) hb1
    have hz2 : (w1.alloc (.cells Tryd.zeroCells25 25)).heap[w1.heap.size]? = some (.cells zlTx.toArray 25 (0, 0)) := heap_alloc_new w1 _
    have hn2 : w.heap.size ≠ w1.heap.size := Nat.ne_of_lt (block_lt hz1)
    have hz3 := (Below.heap_alloc w1 (.cells Tryd.zeroCells25 25) _ (block_lt hz1)).trans hz1
    have HB1 := Lib.hid (bw_alloc hB0 (.cells Tryd.zeroCells25 25))
    have hle := hB0.size
    have hw1 : w.heap.size < w1.heap.size := block_lt hz1
    clear hb1 hz0 hz1 hB0 HASK
    go_wp2_with (first
      | ((with_reducible refine wpList_store_whole rfl 25 (.tmp 6) (.tmp 12) rfl w1.heap.size t.cells zlTx 25 rfl rfl hz2 HTL.out (tx_info HT.out) (start_one _) ?_); intro w2 hU2; have hT2 := hU2.out.at_; have hz4 := (hU2.out.other _ hn2).trans hz3; have HB2 := Lib.hid (hU2.out.below HB1.out hle); have hG2 := HG.out.below HB2.out; have hm2 := hG2.cm; have hown2 := hG2.own; have HG2 := Lib.hid hG2; clear hz2 hz3 hG2)
      | ((at_mapUpdate; refine wpList_mapUpdate_own _ rfl (.tmp 19) (.tmp 20) _ 100 rfl 9 3 (Maps.string_keyed Tryd.underlying9) Tryd.underlying100 _ mb n D (by rfl) hown2 hnm (.string s) (.int .i64 1) _ (by rfl) (by rfl) HKEY.out (rowInt 1) [] (plainElem_int Tryd.underlying3 (by decide)) ?_); intro w4 hown4 hg4; have hT4 := (hg4.block w1.heap.size (block_lt hT2) (by intro e; injection e with e; omega)).trans hT2; have hz5 := (hg4.block _ (block_lt hz4) (by intro e; injection e with e; omega)).trans hz4; clear hT2 hz4 hm2)
      | (with_reducible refine wpList_load_rows rfl 25 (.tmp 6) rfl w1.heap.size 0 t.cells t.cells 25 (0, 0) _ rfl hT4 id_at Tryd.underlying25 rfl (tx_info HT.out) ?_)
      | ((with_reducible refine wpList_store_whole rfl 25 (.tmp 4) (.tmp 21) rfl w.heap.size t.cells zlTx 25 rfl rfl hz5 HTL.out (tx_info HT.out) (start_one _) ?_); intro w5 hU5))
    have hG4 : GAt w4 g fl nx mb (n + 1) (D.put (.string s.data.toList) (rowInt 1)) := ⟨HG2.out.len, (hg4.block _ (block_lt HG2.out.row) (by intro e; injection e with e; exact hne e)).trans HG2.out.row, hown4, hne⟩
    have hTu : Turned w w5 g mb := ((Turned.of g mb HB2.out).trans (Turned.grown hg4)).then_upd hU5.out (Nat.le_refl _)
    exact post_cell_tmp 4 5 25 rfl w.heap.size _ t.cells _ _ hU5.out.at_ Tryd.underlying25 rfl (tx_info HT.out) (.int .i64 0) rfl rfl rfl ⟨rfl, hTu, hG4.turned hU5.out (by omega) (by omega)⟩
set_option maxHeartbeats 2000000
set_option maxRecDepth 4000
theorem is_ok (t : TX) (g mb n : Nat) (fl : Int) (nx : List Int) (D : DataW Unit) (c : Int) (w : World) (hG : GAt w g fl nx mb n D) (ht : t.wf) (hk : t.chk = 0)
    (hc : D.atKey (.string t.textS.data.toList) (.lit (.int .i64 0)) = .lit (.int .i64 c)) (hc0 : c ≠ 0) :
    Calls Tryd.prog 77 #[.pointer (some ⟨g, 0, none⟩), .agg t.cells.toArray] w fun e w' => e = .returned (.tuple #[.string t.textS, .int .i64 0]) ∧ Below w.heap.size w w' := by
  have HT := Lib.hid ht
  have HG := Lib.hid hG
  have HK := Lib.hid hk
  have hg0 := heap_alloc_new w (.cells t.cells.toArray 25)
  have HC := Lib.hid hc
  have HKEY := Lib.hid (key_str (s := t.textS) (Nat.le_trans (textS_size t ht) (by decide)))
  have hcb : (c == 0) = false := by simpa using hc0
  obtain ⟨s, hs⟩ : ∃ s, s = t.textS := ⟨_, rfl⟩
  rw [← hs]
  rw [← hs] at HC HKEY
  have HS := Lib.hid hs
  clear ht hG hk hc hs hc0
  go_enter Tryd.func77, Tryd.ntmps77
  go_wp2_with (with_reducible refine wpList_load_rows rfl 25 (.tmp 3) rfl w.heap.size 0 t.cells t.cells 25 (0, 0) _ rfl hg0 id_at Tryd.underlying25 rfl (tx_info HT.out) ?_)
  refine (ttext_any t _ HT.out).mono ?_
  rintro e w1 ⟨rfl, hb1⟩
  rw [HK.out, ← HS.out]
  have HB1 := Lib.hid (bw_call (bw_alloc (Below.refl w.heap.size w) _) hb1)
  have hG1 := HG.out.below HB1.out
  have hm1 := hG1.cm
  obtain ⟨c', hlk, hat, hwc⟩ := hG1.own.lookup_int (Maps.string_keyed Tryd.underlying9) Tryd.underlying100 Tryd.underlying3 (int_zero _) HKEY.out
  obtain rfl : c = c' := by rw [HC.out] at hat; injection hat with hat; injection hat
  clear hb1 hg0 hG1 hat hwc
  go_wp2_with fail
  go_ret2
  exact ⟨rfl, HB1.out⟩
theorem gcells_set {fl : Int} {nx : List Int} {mb fr : Nat} (x : Int) (h : nx.length = 64) (hf : fr < 64) : (gcells fl nx mb).set (1 + fr) (.int .i64 x) = gcells fl (nx.set fr x) mb := by
  unfold gcells
  rw [Nat.add_comm, List.set_cons_succ, List.set_append_left _ _ (by simp; omega), ← List.map_set]
theorem GAt.free {W : World} {g mb n : Nat} {fl : Int} {nx : List Int} {D : DataW Unit} (h : GAt W g fl nx mb n D) (k : Nat) : W.frozen? ⟨g, k, none⟩ = false := frozen_of_row W g k _ _ h.row
theorem GAt.setn {W : World} {g mb n fr : Nat} {fl : Int} {nx : List Int} {D : DataW Unit} (h : GAt W g fl nx mb n D) (hf : fr < 64) (x : Int) : GAt (W.setCell ⟨g, 1 + fr, none⟩ (.int .i64 x)) g fl (nx.set fr x) mb n D := by
  obtain ⟨h1, h2, ⟨es, clock, h3, r⟩, h4⟩ := h
  refine ⟨by rw [List.length_set]; exact h1, ?_, ⟨es, clock, (heap_setCell_other _ _ _ _ (fun e => h4 e.symm)).trans h3, r⟩, h4⟩
  have := set_row (i := 1 + fr) h2 (.int .i64 x)
  rw [gcells_set x h1 hf] at this
  exact this
theorem done_ok (t : TX) (g mb n : Nat) (fl : Int) (nx : List Int) (D : DataW Unit) (c : Int) (w : World) (hG : GAt w g fl nx mb n D) (ht : t.wf) (hk : t.chk = 0)
    (hc : D.atKey (.string t.textS.data.toList) (.lit (.int .i64 0)) = .lit (.int .i64 c)) (hc0 : c ≠ 0) (hn : t.nonce = nx.getD t.frm.toNat 0) :
    Calls Tryd.prog 37 #[.pointer (some ⟨g, 0, none⟩), .agg t.cells.toArray] w fun e w' => e = .returned (.int .i64 0) ∧ Turned w w' g mb ∧ GAt w' g fl (nx.set t.frm.toNat (t.nonce + 1)) mb n (D.del (.string t.textS.data.toList)) := by
  have HT := Lib.hid ht
  have HG := Lib.hid hG
  have HK := Lib.hid hk
  have hg0 := heap_alloc_new w (.cells t.cells.toArray 25)
  have HKEY := Lib.hid (key_str (s := t.textS) (Nat.le_trans (textS_size t ht) (by decide)))
  obtain ⟨⟨⟨⟨z1, z2⟩, z3⟩, z4⟩, ⟨z5, z6⟩, hrest⟩ := TX.chk_zero hk
  have HIS := Lib.hid (is_ok t g mb n fl nx D c _ (hG.below (bw_alloc (Below.refl _ _) (.cells t.cells.toArray 25))) ht hk hc hc0)
  obtain ⟨s, hs⟩ : ∃ s, s = t.textS := ⟨_, rfl⟩
  rw [← hs] at HKEY HIS ⊢
  have hlt := hG.lts
  have HNE := Lib.hid hG.ne
  obtain ⟨fr, hfr⟩ : ∃ fr : Nat, t.frm = (fr : Int) := ⟨t.frm.toNat, by omega⟩
  have hfr64 : fr < 64 := by omega
  have HFR := Lib.hid hfr
  have hnn : t.nonce = nx.getD fr 0 := by rw [hn, hfr]; rfl
  have HNN := Lib.hid hnn
  obtain ⟨nc, hnc⟩ : ∃ x, x = t.nonce := ⟨_, rfl⟩
  rw [← hnc] at z5 z6 ⊢
  have HNC := Lib.hid hnc
  rw [show t.frm.toNat = fr by omega]
  clear ht hG hk hc hs hc0 hrest hn hnn hnc z1 z2 z3 z4 hfr
  go_enter Tryd.func37, Tryd.ntmps37
  go_wp2_with (with_reducible refine wpList_load_rows rfl 25 (.tmp 3) rfl w.heap.size 0 t.cells t.cells 25 (0, 0) _ rfl hg0 id_at Tryd.underlying25 rfl (tx_info HT.out) ?_)
  refine HIS.out.mono ?_
  rintro e w1 ⟨rfl, hb1⟩
  have HB1 := Lib.hid (bw_call (bw_alloc (Below.refl w.heap.size w) _) hb1)
  have hT1 := (hb1.block _ (block_lt hg0)).trans hg0
  have hG1 := HG.out.below HB1.out
  have k0 : w1.cell? ⟨w.heap.size, 0, none⟩ = some (.int .i64 fr) := by rw [← HFR.out, cell_of_row w1 _ 0 _ _ _ hT1]; rfl
  have k1 : w1.cell? ⟨w.heap.size, 1, none⟩ = some (.int .i64 nc) := by rw [HNC.out, cell_of_row w1 _ 1 _ _ _ hT1]; rfl
  have g1 : w1.cell? ⟨g, 1 + fr, none⟩ = some (.int .i64 nc) := by rw [HNC.out, HNN.out]; exact hG1.cn hfr64
  have f0 : (0 : Int) ≤ fr := by omega
  have f1 : (fr : Int) < 64 := by omega
  have HG1 := Lib.hid hG1
  have HT1 := Lib.hid hT1
  clear hb1 hg0 hG1 hT1 HIS
  go_wp2_with fail
  go_quiet (fail)
  have hG2 := HG1.out.below (bw_drewN (Below.refl _ _) nq)
  have hm2 := hG2.cm
  have hown2 := hG2.own
  have HG2 := Lib.hid hG2
  have HB2 := Lib.hid (bw_drewN HB1.out nq)
  have HT2 : Hid ((w1.drewN nq).heap[w.heap.size]? = some (.cells t.cells.toArray 25 (0, 0))) := show _ = _ from HT1.out
  clear k0 k1 g1 HG1 HT1 HB1 hG2
  go_wp2_with ((at_delete; refine wpList_delete_own _ rfl (.tmp 29) (.tmp 30) 100 9 rfl 3 (Maps.string_keyed Tryd.underlying9) Tryd.underlying100 _ mb n D (by rfl) hown2 (.string s) _ (by rfl) HKEY.out ?_); intro w3 hown3 hmt3)
  have hg3 := hmt3.grown
  have hT3 : w3.heap[w.heap.size]? = some (.cells t.cells.toArray 25 (0, 0)) := (hg3.block _ (block_lt HT2.out) (by intro e; injection e with e; omega)).trans HT2.out
  have hG3 : GAt w3 g fl nx mb n (D.del (.string s.data.toList)) := ⟨HG2.out.len, (hg3.block _ (block_lt HG2.out.row) (by intro e; injection e with e; exact HNE.out e)).trans HG2.out.row, hown3, HNE.out⟩
  have k0 : w3.cell? ⟨w.heap.size, 0, none⟩ = some (.int .i64 fr) := by rw [← HFR.out, cell_of_row w3 _ 0 _ _ _ hT3]; rfl
  have g1 : w3.cell? ⟨g, 1 + fr, none⟩ = some (.int .i64 nc) := by rw [HNC.out, HNN.out]; exact hG3.cn hfr64
  have HTu := Lib.hid ((Turned.of g mb HB2.out).trans (Turned.grown hg3))
  have HG3 := Lib.hid hG3
  clear hT3 hG3 hg3 hmt3 hown3 hown2 hm2
  have e1 : IntKind.i64.wrap (nc + 1) = nc + 1 := IntWalk.i64_in _ (by omega)
  go_wp2_with fail
  go_still_tail 10, (by kernel_rfl)
  change wpList _ _ _ _ _ w3.drew
  have g2 : w3.drew.cell? ⟨g, 1 + fr, none⟩ = some (.int .i64 nc) := g1
  have gf : w3.drew.frozen? ⟨g, 1 + fr, none⟩ = false := HG3.out.free _
  have HG4 := Lib.hid (HG3.out.below (Below.refl _ _).drew)
  have HTu2 := Lib.hid (HTu.out.trans (Turned.of g mb (Below.refl _ _).drew))
  clear k0 g1 HTu
  generalize w3.drew = w4 at *
  go_wp2_with fail
  go_ret
  refine ⟨rfl, HTu2.out.trans ⟨rfl, rfl, rfl, by simp [World.setCell], fun k _ h1 _ => heap_setCell_other _ _ _ _ h1⟩, HG4.out.setn hfr64 _⟩
theorem next_any (who : Nat) (g mb n : Nat) (fl : Int) (nx : List Int) (D : DataW Unit) (w : World) (hG : GAt w g fl nx mb n D) (hw : who < 64) :
    Calls Tryd.prog 38 #[.pointer (some ⟨g, 0, none⟩), .int .i64 who] w fun e w' => e = .returned (.int .i64 (nx.getD who 0)) ∧ w' = w := by
  have g1 := hG.cn hw
  obtain ⟨r, hr⟩ : ∃ r, r = nx.getD who 0 := ⟨_, rfl⟩
  rw [← hr] at g1 ⊢
  clear hr hG
  have f0 : (0 : Int) ≤ who := by omega
  have f1 : (who : Int) < 64 := by omega
  have d0 : decide ((who : Int) < 0) = false := decide_eq_false (by omega)
  have d1 : decide ((64 : Int) ≤ who) = false := decide_eq_false (by omega)
  go_enter Tryd.func38, Tryd.ntmps38
  go_wp2_with fail
  go_ret
  exact ⟨rfl, rfl⟩
theorem in_any (g mb n : Nat) (fl : Int) (nx : List Int) (D : DataW Unit) (w : World) (hG : GAt w g fl nx mb n D) :
    Calls Tryd.prog 33 #[.pointer (some ⟨g, 0, none⟩)] w fun e w' => e = .returned (.int .i64 (Maps.size D)) ∧ w' = w := by
  have hm := hG.cm
  have hlen := fun ty => hG.own.len Tryd.underlying100 ty
  clear hG
  go_enter Tryd.func33, Tryd.ntmps33
  go_wp2_with fail
  go_ret
  exact ⟨rfl, rfl⟩
end Go.Proofs.YtckfdmkjeocadaaDoor
