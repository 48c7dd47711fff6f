/- A gate of the package admit: what its calls do with whatever comes. -/
import Derived.Test.YtckfdmkjeocadaaDoorGates
namespace Go.Proofs.YtckfdmkjeocadaaDoor
open Go.RowKit
set_option maxHeartbeats 2000000
set_option maxRecDepth 4000
/-- what is in: each with the number one -/
structure One (D : DataW Unit) : Prop where
  tidy : Maps.Tidy D
  at_ : ∀ k : List UInt8, D.atKey (.string k) (.lit (.int .i64 0)) = .lit (.int .i64 (if Maps.has D (.string k) = true then 1 else 0))
theorem One.nil : One (.map []) := ⟨Maps.tidy_empty, fun _ => rfl⟩
theorem One.put {D : DataW Unit} (h : One D) (k : List UInt8) : One (D.put (.string k) (rowInt 1)) := by
  refine ⟨h.tidy.put (show WideAt.IsKeyLit (Lit.string k) from trivial) _, fun j => ?_⟩
  by_cases hj : j = k
  · subst hj
    rw [Maps.atKey_put_same h.tidy.isMap (show WideAt.IsKeyLit (Lit.string j) from trivial), Maps.has_put_same h.tidy.isMap (show WideAt.IsKeyLit (Lit.string j) from trivial), if_pos rfl]
    rfl
  · have hne : Lit.string j ≠ Lit.string k := fun e => hj (by injection e)
    rw [Maps.atKey_put_other hne, Maps.has_put_other hne]
    exact h.at_ j
theorem One.del {D : DataW Unit} (h : One D) (k : List UInt8) : One (D.del (.string k)) := by
  refine ⟨h.tidy.del _, fun j => ?_⟩
  by_cases hj : j = k
  · subst hj
    rw [Maps.atKey_del_same, Maps.has_del_same]
    rfl
  · have hne : Lit.string j ≠ Lit.string k := fun e => hj (by injection e)
    rw [Maps.atKey_del_other hne, Maps.has_del_other hne]
    exact h.at_ j
def inD (D : DataW Unit) (s : ByteArray) : Bool := Maps.has D (.string s.data.toList)
theorem inD_put {D : DataW Unit} (h : One D) (s : ByteArray) : inD (D.put (.string s.data.toList) (rowInt 1)) s = true := Maps.has_put_same h.tidy.isMap (show WideAt.IsKeyLit (Lit.string _) from trivial) _
theorem size_in {D : DataW Unit} (h : One D) (s : ByteArray) (hi : inD D s = false) : Maps.size (D.put (.string s.data.toList) (rowInt 1)) = Maps.size D + 1 := by
  rw [Maps.size_put h.tidy, if_neg (by rw [show Maps.has D (Lit.string s.data.toList) = false from hi]; decide)]
theorem frm_of17 {b : ByteArray} {x : TX} (h : rdTx b = .ok x) : 0 ≤ x.frm ∧ x.frm < 64 := by
  obtain ⟨⟨⟨⟨z1, z2⟩, z3⟩, z4⟩, hrest⟩ := TX.chk_zero (tx_back h).2.1
  constructor <;> omega
/-- what a gate says of a text -/
def askR (fl : Int) (nx : List Int) (D : DataW Unit) (s : ByteArray) : TX × Int :=
  match rdTx s with
  | .error _ => (TX.zero, 6)
  | .ok t => if t.signed ≠ 0 then (TX.zero, 21) else if t.fee < fl then (TX.zero, 24) else if t.nonce < nx.getD t.frm.toNat 0 then (TX.zero, 22) else if inD D s = true then (TX.zero, 23) else (t, 0)
theorem ask_any (s : ByteArray) (g mb n : Nat) (fl : Int) (nx : List Int) (D : DataW Unit) (w : World) (hG : GAt w g fl nx mb n D) (hD : One D) (hs : s.size ≤ 140737488355328) (hR : RoundsAt w) :
    Calls Tryd.prog 34 #[.pointer (some ⟨g, 0, none⟩), .string s] w fun e w' => e = .returned (.tuple #[.agg (askR fl nx D s).1.cells.toArray, .int .i64 (askR fl nx D s).2]) ∧ Below w.heap.size w w' := by
  obtain ⟨r, hr⟩ : ∃ r, r = askR fl nx D s := ⟨_, rfl⟩
  rw [← hr]
  have HRR := Lib.hid hr
  have HG := Lib.hid hG
  have HR := Lib.hid hR
  have hz0 : (w.alloc (.cells Tryd.zeroCells25 25)).heap[w.heap.size]? = some (.cells zlTx.toArray 25 (0, 0)) := heap_alloc_new w _
  have hgn : g ≠ w.heap.size := Nat.ne_of_lt (block_lt hG.row)
  cases hrd : rdTx s with
  | error x =>
    have HQ : Hid (r = (TX.zero, 6)) := show _ = _ by rw [HRR.out, askR, hrd]
    have hx1 : (x != 0) = true := by have := rdTx_err hrd; simpa using this
    have HRD := Lib.hid hrd
    clear hG hR hrd hr hD
    go_enter Tryd.func34, Tryd.ntmps34
    go_wp2_with fail
    refine (read_any s _ hs).mono ?_
    rintro e w1 ⟨rfl, hb1⟩
    rw [HRD.out]
    simp only [txOf, errOf]
    have HZ1 := Lib.hid ((Below.heap_alloc w1 (.cells Tryd.zeroCells25 25) _ (block_lt ((hb1.block _ (block_lt hz0)).trans hz0))).trans ((hb1.block _ (block_lt hz0)).trans hz0))
    have HB1 := Lib.hid (bw_alloc (bw_call (bw_alloc (Below.refl w.heap.size w) (.cells Tryd.zeroCells25 25)) hb1) (.cells Tryd.zeroCells25 25))
    have hz1 : (w1.alloc (.cells Tryd.zeroCells25 25)).heap[w1.heap.size]? = some (.cells zlTx.toArray 25 (0, 0)) := heap_alloc_new w1 _
    have hne : w.heap.size ≠ w1.heap.size := Nat.ne_of_lt (block_lt ((hb1.block _ (block_lt hz0)).trans hz0))
    have hle : w.heap.size ≤ w1.heap.size := Nat.le_trans (by simp) hb1.size
    clear hb1 hz0
    go_wp2_with (first
      | ((with_reducible refine wpList_store_whole rfl 25 (.tmp 6) (.tmp 14) rfl w1.heap.size TX.zero.cells zlTx 25 rfl rfl hz1 rfl (tx_info TX.zero_wf) (start_one _) ?_); intro w2 hU2; have hz2 := (hU2.out.other _ hne).trans HZ1.out; have HB2 := Lib.hid (hU2.out.below HB1.out hle); clear hz1)
      | (with_reducible refine wpList_build rfl 25 [] rfl [] (.agg zlTx.toArray) rfl (tx_build0 _) ?_)
      | ((with_reducible refine wpList_store_whole rfl 25 (.tmp 4) (.tmp 18) rfl w.heap.size zlTx zlTx 25 rfl rfl hz2 rfl zlTx_info zlTx_one ?_); intro w6 hU))
    exact post_cell_tmp 4 5 25 rfl w.heap.size _ zlTx _ _ hU.out.at_ Tryd.underlying25 rfl zlTx_info (.int .i64 6) rfl rfl rfl ⟨by rw [HQ.out]; rfl, hU.out.below HB2.out (Nat.le_refl _)⟩
  | ok t =>
    have HRD := Lib.hid hrd
    have HT : Hid t.wf := show _ from (tx_back hrd).1
    have HTL : Hid (t.cells.length = zlTx.length) := show _ = _ from t.cells_length HT.out.by_ HT.out.tag
    have hfr0 := frm_of17 hrd
    by_cases hsg : t.signed = 0
    · by_cases hf : t.fee < fl
      · have HQ : Hid (r = (TX.zero, 24)) := show _ = _ by rw [HRR.out, askR, hrd]; dsimp only; rw [if_neg (by simpa using hsg), if_pos hf]
        have hd1 : decide (t.fee < fl) = true := decide_eq_true hf
        have HSG := Lib.hid hsg
        clear hG hR hrd hr hD hsg hf
        go_enter Tryd.func34, Tryd.ntmps34
        go_wp2_with fail
        refine (read_any s _ hs).mono ?_
        rintro e w1 ⟨rfl, hb1⟩
        rw [HRD.out]
        simp only [txOf, errOf]
        have HZ1 := Lib.hid ((Below.heap_alloc w1 (.cells Tryd.zeroCells25 25) _ (block_lt ((hb1.block _ (block_lt hz0)).trans hz0))).trans ((hb1.block _ (block_lt hz0)).trans hz0))
        have HB1 := Lib.hid (bw_alloc (bw_call (bw_alloc (Below.refl w.heap.size w) (.cells Tryd.zeroCells25 25)) hb1) (.cells Tryd.zeroCells25 25))
        have hz1 : (w1.alloc (.cells Tryd.zeroCells25 25)).heap[w1.heap.size]? = some (.cells zlTx.toArray 25 (0, 0)) := heap_alloc_new w1 _
        have hne : w.heap.size ≠ w1.heap.size := Nat.ne_of_lt (block_lt ((hb1.block _ (block_lt hz0)).trans hz0))
        have hle : w.heap.size ≤ w1.heap.size := Nat.le_trans (by simp) hb1.size
        clear hb1 hz0
        go_wp2_with (first
          | ((with_reducible refine wpList_store_whole rfl 25 (.tmp 6) (.tmp 14) rfl w1.heap.size t.cells zlTx 25 rfl rfl hz1 HTL.out (tx_info HT.out) (start_one _) ?_); intro w2 hU2; have hT2 := hU2.out.at_; have HZ2 := Lib.hid ((hU2.out.other _ hne).trans HZ1.out); have HB2 := Lib.hid (hU2.out.below HB1.out hle); clear hz1)
          | (with_reducible refine wpList_load_rows rfl 25 (.tmp 6) rfl w1.heap.size 0 t.cells t.cells 25 (0, 0) _ rfl hT2 id_at Tryd.underlying25 rfl (tx_info HT.out) ?_))
        refine (signed_any t _ HT.out (HR.out.below HB2.out HR.out.1)).mono ?_
        rintro e w3 ⟨rfl, hb3⟩
        have hT3 := (hb3.block _ (block_lt hT2)).trans hT2
        have HZ3 := Lib.hid ((hb3.block _ (block_lt HZ2.out)).trans HZ2.out)
        have HB3 := Lib.hid (bw_call HB2.out hb3)
        have HG3 := Lib.hid (HG.out.below HB3.out)
        clear hb3 hT2
        generalize w1.heap.size = b1 at *
        rw [HSG.out]
        have k2 : w3.cell? ⟨b1, 2, none⟩ = some (.int .i64 t.fee) := by rw [cell_of_row w3 b1 2 _ _ _ hT3]; rfl
        have g0 := HG3.out.c0
        clear hT3
        go_wp2_with fail
        go_quiet (fail)
        have hz4 : (w3.drewN nq).heap[w.heap.size]? = some (.cells zlTx.toArray 25 (0, 0)) := HZ3.out
        have HB4 := Lib.hid (bw_drewN HB3.out nq)
        clear k2 g0
        go_wp2_with (first
          | (with_reducible refine wpList_build rfl 25 [] rfl [] (.agg zlTx.toArray) rfl (tx_build0 _) ?_)
          | ((with_reducible refine wpList_store_whole rfl 25 (.tmp 4) (.tmp 32) rfl w.heap.size zlTx zlTx 25 rfl rfl hz4 rfl zlTx_info zlTx_one ?_); intro w6 hU))
        exact post_cell_tmp 4 5 25 rfl w.heap.size _ zlTx _ _ hU.out.at_ Tryd.underlying25 rfl zlTx_info (.int .i64 24) rfl rfl rfl ⟨by rw [HQ.out]; rfl, hU.out.below HB4.out (Nat.le_refl _)⟩
      · by_cases hn : t.nonce < nx.getD t.frm.toNat 0
        · have HQ : Hid (r = (TX.zero, 22)) := show _ = _ by rw [HRR.out, askR, hrd]; dsimp only; rw [if_neg (by simpa using hsg), if_neg hf, if_pos hn]
          have hd1 : decide (t.fee < fl) = false := decide_eq_false hf
          obtain ⟨nn, hnn0⟩ : ∃ x, x = nx.getD t.frm.toNat 0 := ⟨_, rfl⟩
          have hnn : ∀ fr : Nat, t.frm = fr → nn = nx.getD fr 0 := fun fr h => by rw [hnn0, h]; rfl
          have hd2 : decide (t.nonce < nn) = true := decide_eq_true (by rw [hnn0]; exact hn)
          clear hnn0 hn
          have HSG := Lib.hid hsg
          clear hG hR hrd hr hD hsg hf
          go_enter Tryd.func34, Tryd.ntmps34
          go_wp2_with fail
          refine (read_any s _ hs).mono ?_
          rintro e w1 ⟨rfl, hb1⟩
          rw [HRD.out]
          simp only [txOf, errOf]
          have HZ1 := Lib.hid ((Below.heap_alloc w1 (.cells Tryd.zeroCells25 25) _ (block_lt ((hb1.block _ (block_lt hz0)).trans hz0))).trans ((hb1.block _ (block_lt hz0)).trans hz0))
          have HB1 := Lib.hid (bw_alloc (bw_call (bw_alloc (Below.refl w.heap.size w) (.cells Tryd.zeroCells25 25)) hb1) (.cells Tryd.zeroCells25 25))
          have hz1 : (w1.alloc (.cells Tryd.zeroCells25 25)).heap[w1.heap.size]? = some (.cells zlTx.toArray 25 (0, 0)) := heap_alloc_new w1 _
          have hne : w.heap.size ≠ w1.heap.size := Nat.ne_of_lt (block_lt ((hb1.block _ (block_lt hz0)).trans hz0))
          have hle : w.heap.size ≤ w1.heap.size := Nat.le_trans (by simp) hb1.size
          clear hb1 hz0
          go_wp2_with (first
            | ((with_reducible refine wpList_store_whole rfl 25 (.tmp 6) (.tmp 14) rfl w1.heap.size t.cells zlTx 25 rfl rfl hz1 HTL.out (tx_info HT.out) (start_one _) ?_); intro w2 hU2; have hT2 := hU2.out.at_; have HZ2 := Lib.hid ((hU2.out.other _ hne).trans HZ1.out); have HB2 := Lib.hid (hU2.out.below HB1.out hle); clear hz1)
            | (with_reducible refine wpList_load_rows rfl 25 (.tmp 6) rfl w1.heap.size 0 t.cells t.cells 25 (0, 0) _ rfl hT2 id_at Tryd.underlying25 rfl (tx_info HT.out) ?_))
          refine (signed_any t _ HT.out (HR.out.below HB2.out HR.out.1)).mono ?_
          rintro e w3 ⟨rfl, hb3⟩
          have hT3 := (hb3.block _ (block_lt hT2)).trans hT2
          have HZ3 := Lib.hid ((hb3.block _ (block_lt HZ2.out)).trans HZ2.out)
          have HB3 := Lib.hid (bw_call HB2.out hb3)
          have HG3 := Lib.hid (HG.out.below HB3.out)
          clear hb3 hT2
          generalize w1.heap.size = b1 at *
          rw [HSG.out]
          obtain ⟨fr, hfr⟩ : ∃ fr : Nat, t.frm = (fr : Int) := ⟨t.frm.toNat, by omega⟩
          have hfr64 : fr < 64 := by omega
          have k0 : w3.cell? ⟨b1, 0, none⟩ = some (.int .i64 fr) := by rw [← hfr, cell_of_row w3 b1 0 _ _ _ hT3]; rfl
          have k1 : w3.cell? ⟨b1, 1, none⟩ = some (.int .i64 t.nonce) := by rw [cell_of_row w3 b1 1 _ _ _ hT3]; rfl
          have k2 : w3.cell? ⟨b1, 2, none⟩ = some (.int .i64 t.fee) := by rw [cell_of_row w3 b1 2 _ _ _ hT3]; rfl
          have g0 := HG3.out.c0
          have g1 : w3.cell? ⟨g, 1 + fr, none⟩ = some (.int .i64 nn) := by rw [hnn fr hfr]; exact HG3.out.cn hfr64
          have f0 : (0 : Int) ≤ fr := by omega
          have f1 : (fr : Int) < 64 := by omega
          clear hT3 hnn
          go_wp2_with fail
          go_quiet (fail)
          have k0' : (w3.drewN nq).cell? ⟨b1, 0, none⟩ = some (.int .i64 fr) := k0
          have k1' : (w3.drewN nq).cell? ⟨b1, 1, none⟩ = some (.int .i64 t.nonce) := k1
          have g1' : (w3.drewN nq).cell? ⟨g, 1 + fr, none⟩ = some (.int .i64 nn) := g1
          have HZ4 : Hid ((w3.drewN nq).heap[w.heap.size]? = some (.cells zlTx.toArray 25 (0, 0))) := show _ = _ from HZ3.out
          have HB4 := Lib.hid (bw_drewN HB3.out nq)
          clear k0 k1 k2 g0 g1 HZ3 HB3 HG3
          go_wp2_with fail
          generalize w3.drewN nq = w4 at *
          go_quiet (fail)
          have hz5 : (w4.drewN nq).heap[w.heap.size]? = some (.cells zlTx.toArray 25 (0, 0)) := HZ4.out
          have HB5 := Lib.hid (bw_drewN HB4.out nq)
          clear k0' k1' g1' HZ4 HB4
          go_wp2_with (first
            | (with_reducible refine wpList_build rfl 25 [] rfl [] (.agg zlTx.toArray) rfl (tx_build0 _) ?_)
            | ((with_reducible refine wpList_store_whole rfl 25 (.tmp 4) (.tmp 44) rfl w.heap.size zlTx zlTx 25 rfl rfl hz5 rfl zlTx_info zlTx_one ?_); intro w6 hU))
          exact post_cell_tmp 4 5 25 rfl w.heap.size _ zlTx _ _ hU.out.at_ Tryd.underlying25 rfl zlTx_info (.int .i64 22) rfl rfl rfl ⟨by rw [HQ.out]; rfl, hU.out.below HB5.out (Nat.le_refl _)⟩
        · have HQ : Hid (r = if inD D s = true then (TX.zero, 23) else (t, 0)) := show _ = _ by rw [HRR.out, askR, hrd]; dsimp only; rw [if_neg (by simpa using hsg), if_neg hf, if_neg hn]
          have h := ask_ok t s g mb n fl nx D _ w HG.out hs HRD.out hsg (by omega) (by omega) (hD.at_ s.data.toList) HR.out
          refine h.mono fun e w' ⟨h1, h2⟩ => ⟨?_, h2⟩
          rw [h1, HQ.out]
          cases hi : inD D s
          · have hi2 : Maps.has D (Lit.string s.data.toList) = false := hi
            rw [hi2]
            rfl
          · have hi2 : Maps.has D (Lit.string s.data.toList) = true := hi
            rw [hi2]
            rfl
    · have HQ : Hid (r = (TX.zero, 21)) := show _ = _ by rw [HRR.out, askR, hrd]; dsimp only; rw [if_pos (by simpa using hsg)]
      have hd1 : (t.signed != 0) = true := by simpa using hsg
      have hf : True := trivial
      have HSG := Lib.hid hsg
      clear hG hR hrd hr hD hsg hf
      go_enter Tryd.func34, Tryd.ntmps34
      go_wp2_with fail
      refine (read_any s _ hs).mono ?_
      rintro e w1 ⟨rfl, hb1⟩
      rw [HRD.out]
      simp only [txOf, errOf]
      have HZ1 := Lib.hid ((Below.heap_alloc w1 (.cells Tryd.zeroCells25 25) _ (block_lt ((hb1.block _ (block_lt hz0)).trans hz0))).trans ((hb1.block _ (block_lt hz0)).trans hz0))
      have HB1 := Lib.hid (bw_alloc (bw_call (bw_alloc (Below.refl w.heap.size w) (.cells Tryd.zeroCells25 25)) hb1) (.cells Tryd.zeroCells25 25))
      have hz1 : (w1.alloc (.cells Tryd.zeroCells25 25)).heap[w1.heap.size]? = some (.cells zlTx.toArray 25 (0, 0)) := heap_alloc_new w1 _
      have hne : w.heap.size ≠ w1.heap.size := Nat.ne_of_lt (block_lt ((hb1.block _ (block_lt hz0)).trans hz0))
      have hle : w.heap.size ≤ w1.heap.size := Nat.le_trans (by simp) hb1.size
      clear hb1 hz0
      go_wp2_with (first
        | ((with_reducible refine wpList_store_whole rfl 25 (.tmp 6) (.tmp 14) rfl w1.heap.size t.cells zlTx 25 rfl rfl hz1 HTL.out (tx_info HT.out) (start_one _) ?_); intro w2 hU2; have hT2 := hU2.out.at_; have HZ2 := Lib.hid ((hU2.out.other _ hne).trans HZ1.out); have HB2 := Lib.hid (hU2.out.below HB1.out hle); clear hz1)
        | (with_reducible refine wpList_load_rows rfl 25 (.tmp 6) rfl w1.heap.size 0 t.cells t.cells 25 (0, 0) _ rfl hT2 id_at Tryd.underlying25 rfl (tx_info HT.out) ?_))
      refine (signed_any t _ HT.out (HR.out.below HB2.out HR.out.1)).mono ?_
      rintro e w3 ⟨rfl, hb3⟩
      have hT3 := (hb3.block _ (block_lt hT2)).trans hT2
      have HZ3 := Lib.hid ((hb3.block _ (block_lt HZ2.out)).trans HZ2.out)
      have HB3 := Lib.hid (bw_call HB2.out hb3)
      have HG3 := Lib.hid (HG.out.below HB3.out)
      clear hb3 hT2
      generalize w1.heap.size = b1 at *
      have hz4 := HZ3.out
      clear hT3 HSG
      go_wp2_with (first
        | (with_reducible refine wpList_build rfl 25 [] rfl [] (.agg zlTx.toArray) rfl (tx_build0 _) ?_)
        | ((with_reducible refine wpList_store_whole rfl 25 (.tmp 4) (.tmp 23) rfl w.heap.size zlTx zlTx 25 rfl rfl hz4 rfl zlTx_info zlTx_one ?_); intro w6 hU))
      exact post_cell_tmp 4 5 25 rfl w.heap.size _ zlTx _ _ hU.out.at_ Tryd.underlying25 rfl zlTx_info (.int .i64 21) rfl rfl rfl ⟨by rw [HQ.out]; rfl, hU.out.below HB3.out (Nat.le_refl _)⟩
theorem askR_wf (fl : Int) (nx : List Int) (D : DataW Unit) (s : ByteArray) : (askR fl nx D s).1.wf := by
  unfold askR
  cases hrd : rdTx s with
  | error x => exact TX.zero_wf
  | ok t =>
    dsimp only
    split
    · exact TX.zero_wf
    · split
      · exact TX.zero_wf
      · split
        · exact TX.zero_wf
        · split
          · exact TX.zero_wf
          · exact (tx_back hrd).1
theorem askR_ok {fl : Int} {nx : List Int} {D : DataW Unit} {s : ByteArray} (h : (askR fl nx D s).2 = 0) : inD D s = false ∧ ∃ t, rdTx s = .ok t ∧ t.signed = 0 ∧ fl ≤ t.fee ∧ nx.getD t.frm.toNat 0 ≤ t.nonce ∧ askR fl nx D s = (t, 0) := by
  unfold askR at h ⊢
  cases hrd : rdTx s with
  | error x => rw [hrd] at h; exact absurd (show (6 : Int) = 0 from h) (by decide)
  | ok t =>
    rw [hrd] at h
    dsimp only at h ⊢
    by_cases h1 : t.signed ≠ 0
    · rw [if_pos h1] at h; exact absurd h (by decide)
    · by_cases h2 : t.fee < fl
      · rw [if_neg h1, if_pos h2] at h; exact absurd h (by decide)
      · by_cases h3 : t.nonce < nx.getD t.frm.toNat 0
        · rw [if_neg h1, if_neg h2, if_pos h3] at h; exact absurd h (by decide)
        · by_cases h4 : inD D s = true
          · rw [if_neg h1, if_neg h2, if_neg h3, if_pos h4] at h; exact absurd h (by decide)
          · exact ⟨by simpa using h4, t, rfl, by simpa using h1, by omega, by omega, by rw [if_neg h1, if_neg h2, if_neg h3, if_neg h4]⟩
theorem askR_put {fl : Int} {nx : List Int} {D : DataW Unit} {s : ByteArray} (hD : One D) (h : (askR fl nx D s).2 = 0) : askR fl nx (D.put (.string s.data.toList) (rowInt 1)) s = (TX.zero, 23) := by
  obtain ⟨h0, t, hrd, h1, h2, h3, -⟩ := askR_ok h
  unfold askR
  rw [hrd]
  dsimp only
  rw [if_neg (by simpa using h1), if_neg (by omega), if_neg (by omega), if_pos (inD_put hD s)]
theorem askR_five (fl : Int) (nx : List Int) (D : DataW Unit) (s : ByteArray) : (askR fl nx D s).2 = 0 ∨ ((askR fl nx D s).1 = TX.zero ∧ ((askR fl nx D s).2 = 6 ∨ (askR fl nx D s).2 = 21 ∨ (askR fl nx D s).2 = 24 ∨ (askR fl nx D s).2 = 22 ∨ (askR fl nx D s).2 = 23)) := by
  unfold askR
  cases hrd : rdTx s with
  | error x => exact .inr ⟨rfl, .inl rfl⟩
  | ok t =>
    dsimp only
    split
    · exact .inr ⟨rfl, .inr (.inl rfl)⟩
    · split
      · exact .inr ⟨rfl, .inr (.inr (.inl rfl))⟩
      · split
        · exact .inr ⟨rfl, .inr (.inr (.inr (.inl rfl)))⟩
        · split
          · exact .inr ⟨rfl, .inr (.inr (.inr (.inr rfl)))⟩
          · exact .inl rfl
/-- what is in, behind a call that lets in -/
def entD (fl : Int) (nx : List Int) (D : DataW Unit) (s : ByteArray) : DataW Unit := if (askR fl nx D s).2 = 0 then D.put (.string s.data.toList) (rowInt 1) else D
theorem One.ent {D : DataW Unit} (h : One D) (fl : Int) (nx : List Int) (s : ByteArray) : One (entD fl nx D s) := by
  unfold entD
  split
  · exact h.put _
  · exact h
theorem enter_any (s : ByteArray) (g mb n : Nat) (fl : Int) (nx : List Int) (D : DataW Unit) (w : World) (hG : GAt w g fl nx mb n D) (hD : One D) (hs : s.size ≤ 140737488355328) (hR : RoundsAt w) (hnm : n < maxLen) :
    Calls Tryd.prog 35 #[.pointer (some ⟨g, 0, none⟩), .string s] w fun e w' => e = .returned (.tuple #[.agg (askR fl nx D s).1.cells.toArray, .int .i64 (askR fl nx D s).2]) ∧ Turned w w' g mb ∧ ∃ n', n' ≤ n + 1 ∧ GAt w' g fl nx mb n' (entD fl nx D s) := by
  have HG := Lib.hid hG
  have hz0 : (w.alloc (.cells Tryd.zeroCells25 25)).heap[w.heap.size]? = some (.cells zlTx.toArray 25 (0, 0)) := heap_alloc_new w _
  have HG0 := Lib.hid (hG.below (bw_alloc (Below.refl _ _) (.cells Tryd.zeroCells25 25)))
  have HASK := Lib.hid (ask_any s g mb n fl nx D _ HG0.out hD hs (hR.below (bw_alloc (Below.refl _ _) (.cells Tryd.zeroCells25 25)) hR.1))
  have hgn := hG.lts
  have HKEY := Lib.hid (key_str hs)
  have hne := hG.ne
  have HT := Lib.hid (askR_wf fl nx D s)
  obtain ⟨E, hE⟩ : ∃ E, E = entD fl nx D s := ⟨_, rfl⟩
  have HE := Lib.hid (hE.trans (show entD fl nx D s = if (askR fl nx D s).2 = 0 then D.put (.string s.data.toList) (rowInt 1) else D from rfl))
  rw [← hE]
  obtain ⟨t, ht⟩ : ∃ t, t = (askR fl nx D s).1 := ⟨_, rfl⟩
  obtain ⟨q, hq⟩ : ∃ q, q = (askR fl nx D s).2 := ⟨_, rfl⟩
  rw [← hq] at HE
  rw [← ht] at HT
  rw [← ht, ← hq] at HASK ⊢
  have HTL : Hid (t.cells.length = zlTx.length) := show _ = _ from t.cells_length HT.out.by_ HT.out.tag
  clear hG hR hD ht hq hE
  by_cases hc0 : q = 0
  · subst hc0
    have HE1 : Hid (E = D.put (.string s.data.toList) (rowInt 1)) := show _ = _ from by rw [HE.out, if_pos rfl]
    clear HE
    go_enter Tryd.func35, Tryd.ntmps35
    go_wp2_with fail
    refine HASK.out.mono ?_
    rintro e w1 ⟨rfl, hb1⟩
    have hz1 := (hb1.block _ (block_lt hz0)).trans hz0
    have hB0 := bw_call (bw_alloc (Below.refl w.heap.size w) _) hb1
    have hz2 : (w1.alloc (.cells Tryd.zeroCells25 25)).heap[w1.heap.size]? = some (.cells zlTx.toArray 25 (0, 0)) := heap_alloc_new w1 _
    have hn2 : w.heap.size ≠ w1.heap.size := Nat.ne_of_lt (block_lt hz1)
    have hz3 := (Below.heap_alloc w1 (.cells Tryd.zeroCells25 25) _ (block_lt hz1)).trans hz1
    have HB1 := Lib.hid (bw_alloc hB0 (.cells Tryd.zeroCells25 25))
    have hle := hB0.size
    have hw1 : w.heap.size < w1.heap.size := block_lt hz1
    clear hb1 hz0 hz1 hB0 HASK
    go_wp2_with (first
      | ((with_reducible refine wpList_store_whole rfl 25 (.tmp 6) (.tmp 12) rfl w1.heap.size t.cells zlTx 25 rfl rfl hz2 HTL.out (tx_info HT.out) (start_one _) ?_); intro w2 hU2; have hT2 := hU2.out.at_; have hz4 := (hU2.out.other _ hn2).trans hz3; have HB2 := Lib.hid (hU2.out.below HB1.out hle); have hG2 := HG.out.below HB2.out; have hm2 := hG2.cm; have hown2 := hG2.own; have HG2 := Lib.hid hG2; clear hz2 hz3 hG2)
      | ((at_mapUpdate; refine wpList_mapUpdate_own _ rfl (.tmp 19) (.tmp 20) _ 100 rfl 9 3 (Maps.string_keyed Tryd.underlying9) Tryd.underlying100 _ mb n D (by rfl) hown2 hnm (.string s) (.int .i64 1) _ (by rfl) (by rfl) HKEY.out (rowInt 1) [] (plainElem_int Tryd.underlying3 (by decide)) ?_); intro w4 hown4 hg4; have hT4 := (hg4.block w1.heap.size (block_lt hT2) (by intro e; injection e with e; omega)).trans hT2; have hz5 := (hg4.block _ (block_lt hz4) (by intro e; injection e with e; omega)).trans hz4; clear hT2 hz4 hm2)
      | (with_reducible refine wpList_load_rows rfl 25 (.tmp 6) rfl w1.heap.size 0 t.cells t.cells 25 (0, 0) _ rfl hT4 id_at Tryd.underlying25 rfl (tx_info HT.out) ?_)
      | ((with_reducible refine wpList_store_whole rfl 25 (.tmp 4) (.tmp 21) rfl w.heap.size t.cells zlTx 25 rfl rfl hz5 HTL.out (tx_info HT.out) (start_one _) ?_); intro w5 hU5))
    have hG4 : GAt w4 g fl nx mb (n + 1) E := ⟨HG2.out.len, (hg4.block _ (block_lt HG2.out.row) (by intro e; injection e with e; exact hne e)).trans HG2.out.row, by rw [HE1.out]; exact hown4, hne⟩
    have hTu : Turned w w5 g mb := ((Turned.of g mb HB2.out).trans (Turned.grown hg4)).then_upd hU5.out (Nat.le_refl _)
    exact post_cell_tmp 4 5 25 rfl w.heap.size _ t.cells _ _ hU5.out.at_ Tryd.underlying25 rfl (tx_info HT.out) (.int .i64 0) rfl rfl rfl ⟨rfl, hTu, n + 1, Nat.le_refl _, hG4.turned hU5.out (by omega) (by omega)⟩
  · have HE1 : Hid (E = D) := show _ = _ from by rw [HE.out, if_neg hc0]
    have hd1 : (q == 0) = false := by simpa using hc0
    clear HE hc0
    go_enter Tryd.func35, Tryd.ntmps35
    go_wp2_with fail
    refine HASK.out.mono ?_
    rintro e w1 ⟨rfl, hb1⟩
    have hz1 := (hb1.block _ (block_lt hz0)).trans hz0
    have hB0 := bw_call (bw_alloc (Below.refl w.heap.size w) _) hb1
    have hz2 : (w1.alloc (.cells Tryd.zeroCells25 25)).heap[w1.heap.size]? = some (.cells zlTx.toArray 25 (0, 0)) := heap_alloc_new w1 _
    have hn2 : w.heap.size ≠ w1.heap.size := Nat.ne_of_lt (block_lt hz1)
    have hz3 := (Below.heap_alloc w1 (.cells Tryd.zeroCells25 25) _ (block_lt hz1)).trans hz1
    have HB1 := Lib.hid (bw_alloc hB0 (.cells Tryd.zeroCells25 25))
    have hle := hB0.size
    have hw1 : w.heap.size < w1.heap.size := block_lt hz1
    clear hb1 hz0 hz1 hB0 HASK
    go_wp2_with (first
      | ((with_reducible refine wpList_store_whole rfl 25 (.tmp 6) (.tmp 12) rfl w1.heap.size t.cells zlTx 25 rfl rfl hz2 HTL.out (tx_info HT.out) (start_one _) ?_); intro w2 hU2; have hT2 := hU2.out.at_; have hz4 := (hU2.out.other _ hn2).trans hz3; have HB2 := Lib.hid (hU2.out.below HB1.out hle); clear hz2 hz3)
      | (with_reducible refine wpList_load_rows rfl 25 (.tmp 6) rfl w1.heap.size 0 t.cells t.cells 25 (0, 0) _ rfl hT2 id_at Tryd.underlying25 rfl (tx_info HT.out) ?_)
      | ((with_reducible refine wpList_store_whole rfl 25 (.tmp 4) (.tmp 21) rfl w.heap.size t.cells zlTx 25 rfl rfl hz4 HTL.out (tx_info HT.out) (start_one _) ?_); intro w3 hU3))
    have hBe := hU3.out.below HB2.out (Nat.le_refl _)
    exact post_cell_tmp 4 5 25 rfl w.heap.size _ t.cells _ _ hU3.out.at_ Tryd.underlying25 rfl (tx_info HT.out) (.int .i64 q) rfl rfl rfl ⟨rfl, Turned.of g mb hBe, n, Nat.le_succ _, by rw [HE1.out]; exact HG.out.below hBe⟩
/-- whether a transaction's text is in -/
def isB (D : DataW Unit) (t : TX) : Bool := decide (t.chk = 0) && inD D t.textS
theorem is_any (t : TX) (g mb n : Nat) (fl : Int) (nx : List Int) (D : DataW Unit) (w : World) (hG : GAt w g fl nx mb n D) (hD : One D) (ht : t.wf) :
    Calls Tryd.prog 77 #[.pointer (some ⟨g, 0, none⟩), .agg t.cells.toArray] w fun e w' => e = .returned (.tuple #[.string (if isB D t = true then t.textS else ByteArray.empty), .int .i64 (if isB D t = true then 0 else 34)]) ∧ Below w.heap.size w w' := by
  by_cases hk : t.chk = 0
  · by_cases hi : inD D t.textS = true
    · have hc := hD.at_ t.textS.data.toList
      rw [if_pos (show Maps.has D (Lit.string t.textS.data.toList) = true from hi)] at hc
      have h := is_ok t g mb n fl nx D 1 w hG ht hk hc (by decide)
      rw [if_pos (by rw [isB, hi, decide_eq_true hk]; rfl), if_pos (by rw [isB, hi, decide_eq_true hk]; rfl)]
      exact h
    · have hi0 : Maps.has D (Lit.string t.textS.data.toList) = false := show inD D t.textS = false from Bool.eq_false_iff.2 hi
      have hc := hD.at_ t.textS.data.toList
      rw [hi0] at hc
      rw [if_neg (by rw [isB, decide_eq_true hk, Bool.true_and]; exact hi), if_neg (by rw [isB, decide_eq_true hk, Bool.true_and]; exact hi)]
      have HT := Lib.hid ht
      have HG := Lib.hid hG
      have HK := Lib.hid hk
      have hg0 := heap_alloc_new w (.cells t.cells.toArray 25)
      have HC := Lib.hid hc
      have HKEY := Lib.hid (key_str (s := t.textS) (Nat.le_trans (textS_size t ht) (by decide)))
      obtain ⟨s, hs⟩ : ∃ s, s = t.textS := ⟨_, rfl⟩
      rw [← hs] at HC HKEY
      have HS := Lib.hid hs
      clear ht hG hk hc hs hi hi0 hD
      go_enter Tryd.func77, Tryd.ntmps77
      go_wp2_with (with_reducible refine wpList_load_rows rfl 25 (.tmp 3) rfl w.heap.size 0 t.cells t.cells 25 (0, 0) _ rfl hg0 id_at Tryd.underlying25 rfl (tx_info HT.out) ?_)
      refine (ttext_any t _ HT.out).mono ?_
      rintro e w1 ⟨rfl, hb1⟩
      rw [HK.out, ← HS.out]
      have HB1 := Lib.hid (bw_call (bw_alloc (Below.refl w.heap.size w) _) hb1)
      have hG1 := HG.out.below HB1.out
      have hm1 := hG1.cm
      obtain ⟨c', hlk, hat, hwc⟩ := hG1.own.lookup_int (Maps.string_keyed Tryd.underlying9) Tryd.underlying100 Tryd.underlying3 (int_zero _) HKEY.out
      obtain rfl : 0 = c' := by rw [HC.out] at hat; injection hat with hat; injection hat
      clear hb1 hg0 hG1 hat hwc
      go_wp2_with fail
      go_ret2
      exact ⟨rfl, HB1.out⟩
  · rw [if_neg (by rw [isB, decide_eq_false hk]; simp), if_neg (by rw [isB, decide_eq_false hk]; simp)]
    have HT := Lib.hid ht
    have hk1 : (t.chk != 0) = true := by simpa using hk
    have hg0 := heap_alloc_new w (.cells t.cells.toArray 25)
    clear ht hG hk hD
    go_enter Tryd.func77, Tryd.ntmps77
    go_wp2_with (with_reducible refine wpList_load_rows rfl 25 (.tmp 3) rfl w.heap.size 0 t.cells t.cells 25 (0, 0) _ rfl hg0 id_at Tryd.underlying25 rfl (tx_info HT.out) ?_)
    refine (ttext_any t _ HT.out).mono ?_
    rintro e w1 ⟨rfl, hb1⟩
    have HB1 := Lib.hid (bw_call (bw_alloc (Below.refl w.heap.size w) _) hb1)
    clear hb1 hg0
    go_wp2_with fail
    go_ret2
    exact ⟨rfl, HB1.out⟩
end Go.Proofs.YtckfdmkjeocadaaDoor
