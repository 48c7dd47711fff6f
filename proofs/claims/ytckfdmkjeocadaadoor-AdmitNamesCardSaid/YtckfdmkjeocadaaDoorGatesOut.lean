/- A gate of the package admit: what lets out, with whatever comes. -/
import Derived.Test.YtckfdmkjeocadaaDoorGatesAny
namespace Go.Proofs.YtckfdmkjeocadaaDoor
open Go.RowKit
set_option maxHeartbeats 2000000
set_option maxRecDepth 4000
def outD (D : DataW Unit) (t : TX) : DataW Unit := if isB D t = true then D.del (.string t.textS.data.toList) else D
theorem One.out {D : DataW Unit} (h : One D) (t : TX) : One (outD D t) := by
  unfold outD
  split
  · exact h.del _
  · exact h
theorem leave_any (t : TX) (g mb n : Nat) (fl : Int) (nx : List Int) (D : DataW Unit) (w : World) (hG : GAt w g fl nx mb n D) (hD : One D) (ht : t.wf) :
    Calls Tryd.prog 36 #[.pointer (some ⟨g, 0, none⟩), .agg t.cells.toArray] w fun e w' => e = .returned (.int .i64 (if isB D t = true then 0 else 34)) ∧ Turned w w' g mb ∧ GAt w' g fl nx mb n (outD D t) := by
  have HT := Lib.hid ht
  have HG := Lib.hid hG
  have hg0 := heap_alloc_new w (.cells t.cells.toArray 25)
  have HKEY := Lib.hid (key_str (s := t.textS) (Nat.le_trans (textS_size t ht) (by decide)))
  have HIS := Lib.hid (is_any t g mb n fl nx D _ (hG.below (bw_alloc (Below.refl _ _) (.cells t.cells.toArray 25))) hD ht)
  have hlt := hG.lts
  have HNE := Lib.hid hG.ne
  have HO : Hid (outD D t = if isB D t = true then D.del (.string t.textS.data.toList) else D) := show _ = _ from rfl
  obtain ⟨O, hO⟩ : ∃ x, x = outD D t := ⟨_, rfl⟩
  rw [← hO] at HO ⊢
  obtain ⟨s, hs⟩ : ∃ s, s = t.textS := ⟨_, rfl⟩
  rw [← hs] at HKEY HIS HO
  obtain ⟨ib, hib⟩ : ∃ x, x = isB D t := ⟨_, rfl⟩
  rw [← hib] at HIS HO ⊢
  clear ht hG hs hib hD hO
  cases ib
  · simp only [if_neg (show ¬ (false = true) from by decide)] at HIS HO ⊢
    go_enter Tryd.func36, Tryd.ntmps36
    go_wp2_with (with_reducible refine wpList_load_rows rfl 25 (.tmp 3) rfl w.heap.size 0 t.cells t.cells 25 (0, 0) _ rfl hg0 id_at Tryd.underlying25 rfl (tx_info HT.out) ?_)
    refine HIS.out.mono ?_
    rintro e w1 ⟨rfl, hb1⟩
    have HB1 := Lib.hid (bw_call (bw_alloc (Below.refl w.heap.size w) _) hb1)
    clear hb1 hg0 HIS
    go_wp2_with fail
    go_ret
    exact ⟨rfl, Turned.of g mb HB1.out, by rw [HO.out]; exact HG.out.below HB1.out⟩
  · simp only [if_true] at HIS HO ⊢
    go_enter Tryd.func36, Tryd.ntmps36
    go_wp2_with (with_reducible refine wpList_load_rows rfl 25 (.tmp 3) rfl w.heap.size 0 t.cells t.cells 25 (0, 0) _ rfl hg0 id_at Tryd.underlying25 rfl (tx_info HT.out) ?_)
    refine HIS.out.mono ?_
    rintro e w1 ⟨rfl, hb1⟩
    have HB1 := Lib.hid (bw_call (bw_alloc (Below.refl w.heap.size w) _) hb1)
    have hG2 := HG.out.below HB1.out
    have hm2 := hG2.cm
    have hown2 := hG2.own
    have HG2 := Lib.hid hG2
    clear hb1 hg0 HIS hG2
    go_wp2_with ((at_delete; refine wpList_delete_own _ rfl (.tmp 18) (.tmp 19) 100 9 rfl 3 (Maps.string_keyed Tryd.underlying9) Tryd.underlying100 _ mb n D (by rfl) hown2 (.string s) _ (by rfl) HKEY.out ?_); intro w3 hown3 hmt3)
    have hg3 := hmt3.grown
    have hG3 : GAt w3 g fl nx mb n O := by rw [HO.out]; exact ⟨HG2.out.len, (hg3.block _ (block_lt HG2.out.row) (by intro e; injection e with e; exact HNE.out e)).trans HG2.out.row, hown3, HNE.out⟩
    go_ret
    exact ⟨rfl, (Turned.of g mb HB1.out).trans (Turned.grown hg3), hG3⟩
/-- what Done tells, and what stands behind it -/
def doneR (nx : List Int) (D : DataW Unit) (t : TX) : Int × List Int × DataW Unit :=
  if isB D t = true then (if t.nonce = nx.getD t.frm.toNat 0 then (0, nx.set t.frm.toNat (t.nonce + 1), D.del (.string t.textS.data.toList)) else (33, nx, D)) else (34, nx, D)
theorem One.done {D : DataW Unit} (h : One D) (nx : List Int) (t : TX) : One (doneR nx D t).2.2 := by
  unfold doneR
  split
  · split
    · exact h.del _
    · exact h
  · exact h
theorem done_any (t : TX) (g mb n : Nat) (fl : Int) (nx : List Int) (D : DataW Unit) (w : World) (hG : GAt w g fl nx mb n D) (hD : One D) (ht : t.wf) :
    Calls Tryd.prog 37 #[.pointer (some ⟨g, 0, none⟩), .agg t.cells.toArray] w fun e w' => e = .returned (.int .i64 (doneR nx D t).1) ∧ Turned w w' g mb ∧ GAt w' g fl (doneR nx D t).2.1 mb n (doneR nx D t).2.2 := by
  by_cases hi : isB D t = true
  · have hi2 := hi
    rw [isB, Bool.and_eq_true] at hi2
    have hk : t.chk = 0 := of_decide_eq_true hi2.1
    by_cases hn : t.nonce = nx.getD t.frm.toNat 0
    · have hc := hD.at_ t.textS.data.toList
      rw [if_pos (show Maps.has D (Lit.string t.textS.data.toList) = true from hi2.2)] at hc
      have h := done_ok t g mb n fl nx D 1 w hG ht hk hc (by decide) hn
      rw [show doneR nx D t = (0, nx.set t.frm.toNat (t.nonce + 1), D.del (.string t.textS.data.toList)) by rw [doneR, if_pos hi, if_pos hn]]
      exact h
    · rw [show doneR nx D t = (33, nx, D) by rw [doneR, if_pos hi, if_neg hn]]
      have HT := Lib.hid ht
      have HG := Lib.hid hG
      have hg0 := heap_alloc_new w (.cells t.cells.toArray 25)
      obtain ⟨⟨⟨⟨z1, z2⟩, z3⟩, z4⟩, hrest⟩ := TX.chk_zero hk
      have HIS0 := is_any t g mb n fl nx D _ (hG.below (bw_alloc (Below.refl _ _) (.cells t.cells.toArray 25))) hD ht
      simp only [if_pos hi] at HIS0
      have HIS := Lib.hid HIS0
      obtain ⟨fr, hfr⟩ : ∃ fr : Nat, t.frm = (fr : Int) := ⟨t.frm.toNat, by omega⟩
      have hfr64 : fr < 64 := by omega
      have HFR := Lib.hid hfr
      obtain ⟨nn, hnn⟩ : ∃ x, x = nx.getD fr 0 := ⟨_, rfl⟩
      have hd1 : (t.nonce != nn) = true := by
        rw [bne_iff_ne, hnn]
        rw [hfr] at hn
        exact hn
      have HNN := Lib.hid hnn
      have f0 : (0 : Int) ≤ fr := by omega
      have f1 : (fr : Int) < 64 := by omega
      clear ht hG hk hrest hn hnn z1 z2 z3 z4 hfr hi hi2 hD HIS0
      go_enter Tryd.func37, Tryd.ntmps37
      go_wp2_with (with_reducible refine wpList_load_rows rfl 25 (.tmp 3) rfl w.heap.size 0 t.cells t.cells 25 (0, 0) _ rfl hg0 id_at Tryd.underlying25 rfl (tx_info HT.out) ?_)
      refine HIS.out.mono ?_
      rintro e w1 ⟨rfl, hb1⟩
      have HB1 := Lib.hid (bw_call (bw_alloc (Below.refl w.heap.size w) _) hb1)
      have hT1 := (hb1.block _ (block_lt hg0)).trans hg0
      have hG1 := HG.out.below HB1.out
      have k0 : w1.cell? ⟨w.heap.size, 0, none⟩ = some (.int .i64 fr) := by rw [← HFR.out, cell_of_row w1 _ 0 _ _ _ hT1]; rfl
      have k1 : w1.cell? ⟨w.heap.size, 1, none⟩ = some (.int .i64 t.nonce) := by rw [cell_of_row w1 _ 1 _ _ _ hT1]; rfl
      have g1 : w1.cell? ⟨g, 1 + fr, none⟩ = some (.int .i64 nn) := by rw [HNN.out]; exact hG1.cn hfr64
      clear hb1 hg0 hG1 hT1 HIS
      go_wp2_with fail
      go_quiet (fail)
      have HB2 := Lib.hid (bw_drewN HB1.out nq)
      clear k0 k1 g1 HB1
      go_wp2_with fail
      go_ret
      exact ⟨rfl, Turned.of g mb HB2.out, HG.out.below HB2.out⟩
  · rw [show doneR nx D t = (34, nx, D) by rw [doneR, if_neg hi]]
    have HT := Lib.hid ht
    have HG := Lib.hid hG
    have hg0 := heap_alloc_new w (.cells t.cells.toArray 25)
    have HIS0 := is_any t g mb n fl nx D _ (hG.below (bw_alloc (Below.refl _ _) (.cells t.cells.toArray 25))) hD ht
    simp only [if_neg hi] at HIS0
    have HIS := Lib.hid HIS0
    clear ht hG hi hD HIS0
    go_enter Tryd.func37, Tryd.ntmps37
    go_wp2_with (with_reducible refine wpList_load_rows rfl 25 (.tmp 3) rfl w.heap.size 0 t.cells t.cells 25 (0, 0) _ rfl hg0 id_at Tryd.underlying25 rfl (tx_info HT.out) ?_)
    refine HIS.out.mono ?_
    rintro e w1 ⟨rfl, hb1⟩
    have HB1 := Lib.hid (bw_call (bw_alloc (Below.refl w.heap.size w) _) hb1)
    clear hb1 hg0 HIS
    go_wp2_with fail
    go_ret
    exact ⟨rfl, Turned.of g mb HB1.out, HG.out.below HB1.out⟩
end Go.Proofs.YtckfdmkjeocadaaDoor
