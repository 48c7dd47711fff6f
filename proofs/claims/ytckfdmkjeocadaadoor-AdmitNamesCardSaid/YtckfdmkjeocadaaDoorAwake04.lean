/- cavalcadelaw04.awake: what the call does. -/
import Derived.Test.YtckfdmkjeocadaaDoorLaw04
namespace Go.Proofs.YtckfdmkjeocadaaDoor
open Go.RowKit
set_option maxHeartbeats 1000000
set_option maxRecDepth 4000
def tA : TX := { TX.zero with frm := 1, data := ⟨#[97]⟩ }
def tB : TX := { TX.zero with frm := 1 }
theorem i64_one : i64ok 1 := ⟨by decide, by decide⟩
theorem tA_wf : tA.wf := ⟨i64_one, i64_zero, i64_zero, i64_zero, by decide, i64_zero, i64_zero, rfl, rfl⟩
theorem tB_wf : tB.wf := ⟨i64_one, i64_zero, i64_zero, i64_zero, by decide, i64_zero, i64_zero, rfl, rfl⟩
theorem tA_chk : tA.chk = 0 := by decide
theorem tB_chk : tB.chk = 0 := by decide
theorem numEnc_zero : numEnc 0 = [0] := by rw [numEnc, numB_zero]; rfl
theorem numEnc_small {n : Nat} (h0 : 0 < n) (h : n < 256) : numEnc n = [1, UInt8.ofNat n] := by
  rw [numEnc, numB_pos h0, show n / 256 = 0 by omega, numB_zero, show n % 256 = n by omega]
  rfl
theorem tB_body : tB.body = [1, 5, 1, 2, 1, 1, 1, 1, 0, 1, 1, 0, 1, 1, 0, 0] := by
  have h : tB.parts = [bstr [1, 1], bstr [0], bstr [0], bstr [0], ByteArray.empty] := by
    show [numS 1, numS 0, numS 0, numS 0, ByteArray.empty] = _
    rw [numS, numS, numEnc_zero, numEnc_small (by decide) (by decide)]
    rfl
  rw [TX.body, h]
  show numEnc 5 ++ (encText (bstr [1, 1]) ++ (encText (bstr [0]) ++ (encText (bstr [0]) ++ (encText (bstr [0]) ++ (encText ByteArray.empty ++ []))))) = _
  unfold encText
  rw [show (bstr [1, 1]).size = 2 from rfl, show (bstr [0]).size = 1 from rfl, show ByteArray.empty.size = 0 from rfl, numEnc_zero, numEnc_small (n := 5) (by decide) (by decide), numEnc_small (n := 2) (by decide) (by decide), numEnc_small (n := 1) (by decide) (by decide)]
  rfl
theorem tB_ev : (sha (sha (keyB ++ [1, 1]) ++ (1 :: [1, 5, 1, 2, 1, 1, 1, 1, 0, 1, 1, 0, 1, 1, 0, 0])) == z32) = false := by kernel_rfl
theorem tB_signed : tB.signed = 21 := by
  rw [TX.signed, if_pos tB_chk, errTag, if_neg]
  intro h
  have h2 := tB_ev
  have h3 : tB.tagNow = sha (sha (keyB ++ [1, 1]) ++ (1 :: [1, 5, 1, 2, 1, 1, 1, 1, 0, 1, 1, 0, 1, 1, 0, 0])) := by
    rw [TX.tagNow, tB_body]
    show sha (sha (keyB ++ numEnc 1) ++ _) = _
    rw [numEnc_small (n := 1) (by decide) (by decide)]
    rfl
  rw [← h3, h] at h2
  exact absurd (show (z32 == z32) = true from beq_self_eq_true _) (by rw [show (z32 == z32) = false from h2]; decide)
def tS : TX := setTag tA tA.tagNow
theorem tS_wf : tS.wf := setTag_wf tA_wf (tagOf_length _ _ _)
theorem tS_chk : tS.chk = 0 := tA_chk
theorem tS_signed : tS.signed = 0 := by
  rw [TX.signed, if_pos tS_chk, errTag, if_pos (show tS.tagNow = tS.tag from rfl)]
theorem tS_text : tS.textS = bstr tS.text := by rw [TX.textS, if_pos tS_chk]
theorem tS_read : rdTx tS.textS = .ok tS := by rw [tS_text]; exact tx_there tS_wf tS_chk
theorem text_length {t : TX} (h : t.chk = 0) (ht : t.wf) : t.text.length ≤ 600 := by
  have h1 := TX.tparts_tot h ht
  have h2 := TX.tparts_length (t := t)
  have := encList_length (ls := t.tparts) (by omega) (by omega)
  unfold TX.text
  omega
theorem textS_size (t : TX) (ht : t.wf) : t.textS.size ≤ 600 := by
  unfold TX.textS
  by_cases h : t.chk = 0
  · rw [if_pos h]; exact text_length h ht
  · rw [if_neg h]; decide
theorem tA_build (w : World) : (Instr.build 25 #[(0, .int .i64 1), (4, .string ⟨#[97]⟩)]).run Tryd.prog w = .ok (.agg tA.cells.toArray) w := by
  refine run_build_struct (places := #[(0, 1), (1, 1), (2, 1), (3, 1), (4, 1), (5, 1), (6, 1), (7, 1), (8, 32), (40, 32)]) w (tx_zero w) Tryd.underlying25 (by kernel_rfl) ?_
  rw [fill_cons (off := 0) (size := 1) rfl rfl (by decide), fill_cons (off := 4) (size := 1) rfl rfl (Nat.le_of_ble_eq_true rfl)]
  rfl
theorem tB_build (w : World) : (Instr.build 25 #[(0, .int .i64 1)]).run Tryd.prog w = .ok (.agg tB.cells.toArray) w := by
  refine run_build_struct (places := #[(0, 1), (1, 1), (2, 1), (3, 1), (4, 1), (5, 1), (6, 1), (7, 1), (8, 32), (40, 32)]) w (tx_zero w) Tryd.underlying25 (by kernel_rfl) ?_
  rw [fill_cons (off := 0) (size := 1) rfl rfl (by decide)]
  rfl
theorem tA_sign : tA.signRes = tS := if_pos tA_chk
theorem tx_eqG (op : BinOp) (x y : Operand) (xs ys : Array Value) (w : World) : (eqGuard op 25 x y (.agg xs) (.agg ys)).run Tryd.prog w = .ok () w := run_eqGuard_agg w op _ x y xs ys (by kernel_rfl)
theorem tx_eql {t u : TX} (ht : t.wf) (hu : u.wf) (w : World) : (binOp .eql 25 (.agg t.cells.toArray) (.agg u.cells.toArray)).run Tryd.prog w = .ok (.bool (decide (t = u))) w := by
  rw [run_eql_struct, tx_eq ht hu]
  rfl
theorem tx_neq {t u : TX} (ht : t.wf) (hu : u.wf) (w : World) : (binOp .neq 25 (.agg t.cells.toArray) (.agg u.cells.toArray)).run Tryd.prog w = .ok (.bool !(decide (t = u))) w := by
  rw [run_neq_struct, tx_eq ht hu]
  rfl
theorem awake_any (w : World) (hR : RoundsAt w) : Calls Tryd.prog 14 #[] w fun e w' => e = .returned (.bool true) ∧ Below w.heap.size w w' := by
  have HR := Lib.hid hR
  obtain ⟨S, hS⟩ : ∃ S, S = tS := ⟨_, rfl⟩
  have HW : Hid S.wf := show _ from by rw [hS]; exact tS_wf
  have HC : Hid (S.chk = 0) := show _ from by rw [hS]; exact tS_chk
  have HSG : Hid (S.signed = 0) := show _ from by rw [hS]; exact tS_signed
  have HRD : Hid (rdTx S.textS = .ok S) := show _ from by rw [hS]; exact tS_read
  have HSI : Hid (tA.signRes = S) := show _ from by rw [hS]; exact tA_sign
  have HLEN : Hid (S.cells.length = zlTx.length) := show _ = _ from S.cells_length HW.out.by_ HW.out.tag
  have HB0 := Lib.hid (Below.refl w.heap.size w)
  clear hR hS
  go_enter Tryd.func14, Tryd.ntmps14
  go_wp2_with (with_reducible refine wpList_build rfl 25 [(0, .const (.int .i64 1)), (4, .const (.string ⟨#[97]⟩))] rfl [(0, .int .i64 1), (4, .string ⟨#[97]⟩)] (.agg tA.cells.toArray) rfl (tA_build _) ?_)
  refine (sign_any tA _ tA_wf HR.out).mono ?_
  rintro e w1 ⟨rfl, hb1⟩
  rw [HSI.out, tA_chk]
  have hz1 : (w1.alloc (.cells Tryd.zeroCells25 25)).heap[w1.heap.size]? = some (.cells zlTx.toArray 25 (0, 0)) := heap_alloc_new w1 _
  have HB1 := Lib.hid (bw_alloc hb1 (.cells Tryd.zeroCells25 25))
  have hle1 := hb1.size
  clear hb1
  go_wp2_with (first
    | ((with_reducible refine wpList_store_whole rfl 25 (.tmp 1) (.tmp 10) rfl w1.heap.size S.cells zlTx 25 rfl rfl hz1 HLEN.out (tx_info HW.out) (start_one _) ?_); intro w2 hU2; have hT2 := hU2.out.at_; have HB2 := Lib.hid (hU2.out.below HB1.out hle1); clear hz1)
    | (with_reducible refine wpList_load_rows rfl 25 (.tmp 1) rfl w1.heap.size 0 S.cells S.cells 25 (0, 0) _ rfl hT2 id_at Tryd.underlying25 rfl (tx_info HW.out) ?_))
  refine (ttext_any S _ HW.out).mono ?_
  rintro e w3 ⟨rfl, hb3⟩
  rw [HC.out]
  have hT3 := (hb3.block _ (block_lt hT2)).trans hT2
  have HB3 := Lib.hid (bw_call HB2.out hb3)
  clear hb3 hT2
  go_wp2_with fail
  refine (read_any S.textS _ (Nat.le_trans (textS_size S HW.out) (by decide))).mono ?_
  rintro e w4 ⟨rfl, hb4⟩
  rw [HRD.out]
  simp only [txOf, errOf]
  have hT4 := (Below.heap_alloc w4 (.cells Tryd.zeroCells25 25) _ (block_lt ((hb4.block _ (block_lt hT3)).trans hT3))).trans ((hb4.block _ (block_lt hT3)).trans hT3)
  have hz4 : (w4.alloc (.cells Tryd.zeroCells25 25)).heap[w4.heap.size]? = some (.cells zlTx.toArray 25 (0, 0)) := heap_alloc_new w4 _
  have hne : w1.heap.size ≠ w4.heap.size := Nat.ne_of_lt (block_lt ((hb4.block _ (block_lt hT3)).trans hT3))
  have HB4 := Lib.hid (bw_alloc (bw_call HB3.out hb4) (.cells Tryd.zeroCells25 25))
  have hle4 := (bw_call HB3.out hb4).size
  clear hb4 hT3
  go_wp2_with (first
    | ((with_reducible refine wpList_store_whole rfl 25 (.tmp 5) (.tmp 20) rfl w4.heap.size S.cells zlTx 25 rfl rfl hz4 HLEN.out (tx_info HW.out) (start_one _) ?_); intro w5 hU5; have hT5 := hU5.out.at_; have hT6 := (hU5.out.other _ hne).trans hT4; have HB5 := Lib.hid (hU5.out.below HB4.out hle4); clear hz4 hT4)
    | (with_reducible refine wpList_load_rows_g (by kernel_rfl) 25 (.tmp 5) rfl w4.heap.size 0 S.cells S.cells 25 (0, 0) _ rfl hT5 id_at Tryd.underlying25 rfl (tx_info HW.out) ?_)
    | (with_reducible refine wpList_load_rows_g (by kernel_rfl) 25 (.tmp 1) rfl w1.heap.size 0 S.cells S.cells 25 (0, 0) _ rfl hT6 id_at Tryd.underlying25 rfl (tx_info HW.out) ?_)
    | ((with_reducible refine wpList_bin_g (by kernel_rfl) .eql 25 25 (.tmp 33) (.tmp 34) rfl (.agg S.cells.toArray) (.agg S.cells.toArray) (.bool (decide (S = S))) rfl rfl (tx_eqG _ _ _ _ _ _) (tx_eql HW.out HW.out _) ?_); rw [decide_eq_true (rfl : S = S)])
    | (with_reducible refine wpList_build_g (by kernel_rfl) 25 [(0, .const (.int .i64 1))] rfl [(0, .int .i64 1)] (.agg tB.cells.toArray) rfl (tB_build _) ?_))
  have hR5 := HR.out.below HB5.out HR.out.1
  refine (signed_any S _ HW.out hR5).mono ?_
  rintro e w6 ⟨rfl, hb6⟩
  rw [HSG.out]
  have HR6 := Lib.hid (hR5.below hb6 hR5.1)
  have HB6 := Lib.hid (bw_call HB5.out hb6)
  clear hb6 hR5 hT5 hT6
  go_wp2_with (with_reducible refine wpList_build_g (by kernel_rfl) 25 [(0, .const (.int .i64 1))] rfl [(0, .int .i64 1)] (.agg tB.cells.toArray) rfl (tB_build _) ?_)
  refine (signed_any tB _ tB_wf HR6.out).mono ?_
  rintro e w7 ⟨rfl, hb7⟩
  rw [tB_signed]
  have HB7 := Lib.hid (bw_call HB6.out hb7)
  clear hb7
  go_wp2_with fail
  go_ret
  exact ⟨rfl, HB7.out⟩
end Go.Proofs.YtckfdmkjeocadaaDoor
