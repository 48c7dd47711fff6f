/- tx.Text, tx.list: what the calls do. -/
import Derived.Test.YtckfdmkjeocadaaDoorBody
namespace Go.Proofs.YtckfdmkjeocadaaDoor
open Go.RowKit
theorem conv_tx {w W : World} {t : TX} (h : TxAt w W t) {l : List UInt8} {off : Nat} (hl : l.length = 32) (hc : ∀ j v, (u8s l)[j]? = some v → t.cells[off + j]? = some v) (c : Nat) :
    (convert 79 9 (.slice (some ⟨w.heap.size, off, none⟩) 32 c)).run Tryd.prog W = .ok (.string (bstr l)) W :=
  conv_row l Tryd.underlying79 Tryd.underlying5 Tryd.underlying9 hl fun i hi => by
    have h1 := u8s_get l i (by omega)
    rw [h1]
    exact h.cell _ _ (hc i _ h1)
theorem own_pos {w : World} {base n size : Nat} {e : TypeId} {v : Value} {xs : List Value} (h : w.ownsRow base e size v (n + 1) xs) : 0 < w.heap.size := by
  rcases h.2 with ⟨_, h0⟩ | ⟨g, cap, cur, _, _, hg, _⟩
  · cases h0
  · exact Nat.lt_of_le_of_lt (Nat.zero_le _) (block_lt hg)
set_option maxHeartbeats 1000000 in
set_option maxRecDepth 4000 in
theorem ttext_any (t : TX) (w : World) (ht : t.wf) :
    Calls Tryd.prog 13 #[.agg t.cells.toArray] w fun e w' => e = .returned (.tuple #[.string t.textS, .int .i64 t.chk]) ∧ Below w.heap.size w w' := by
  have HT := Lib.hid ht
  have hA0 := TxAt.start w t
  have hg0 := hA0.2
  have HA0 := Lib.hid hA0
  clear hA0 ht
  obtain ⟨k, hk⟩ : ∃ k, k = t.chk := ⟨_, rfl⟩
  obtain ⟨b, hb⟩ : ∃ b, b = t.textS := ⟨_, rfl⟩
  have HK := Lib.hid hk
  have HBS := Lib.hid hb
  rw [← hk, ← hb]
  clear hb
  have hlt : w.heap.size < (w.alloc (.cells t.cells.toArray 25)).heap.size := by simp
  by_cases hk0 : k = 0
  · subst hk0
    have hck : t.chk = 0 := hk.symm
    have HCK := Lib.hid hck
    have hbe : Hid (b = bstr (encList t.tparts)) := show _ = _ by rw [HBS.out, TX.textS, if_pos hck]; rfl
    have hbd : Hid (t.bodyS = bstr t.body) := show _ = _ by rw [TX.bodyS, if_pos hck]
    clear hk hck
    cases hln : t.lane with
    | false =>
      have HLN := Lib.hid hln
      have hpl : t.tparts = [bstr t.body, bstr t.tag] := by rw [TX.tparts, if_neg (by rw [hln]; decide), List.append_nil]
      have HPL := Lib.hid hpl
      clear hln hpl
      go_enter Tryd.func13, Tryd.ntmps13
      go_wp2_with (with_reducible refine wpList_load_rows rfl 25 (.tmp 1) rfl w.heap.size 0 t.cells t.cells 25 (0, 0) _ rfl hg0 id_at Tryd.underlying25 rfl (tx_info HT.out) ?_)
      refine (body_any t _ HT.out).mono ?_
      rintro e w1 ⟨rfl, hb1⟩
      rw [← HK.out, hbd.out]
      have hA1 := HA0.out.below hb1 hlt (bw_call (bw_alloc (Below.refl _ _) _) hb1)
      have hcv := fun c => conv_tx hA1 HT.out.tag (TX.at_tag HT.out.by_) c
      have hc5 : w1.cell? ⟨w.heap.size, 5, none⟩ = some (.bool false) := by have := hA1.cell 5 _ rfl; rw [HLN.out] at this; exact this
      have hc6 := fun Z => (Below.cell (bw_alloc (Below.refl w1.heap.size w1) Z) (p := ⟨w.heap.size, 5, none⟩) (block_lt hA1.2)).trans hc5
      have HA1 := Lib.hid hA1
      clear hA1 hb1
      go_wp2_with fail
      have hrd := rd_two (w := w1) (x := bstr t.body) (y := bstr t.tag) (t := 9) rfl
      rw [← HPL.out] at hrd
      refine (list_ok _ t.tparts _ hrd (Nat.le_trans TX.tparts_length (by decide)) (Nat.le_trans (TX.tparts_tot HCK.out HT.out) (by decide))).mono ?_
      rintro e w5 ⟨rfl, hb5⟩
      have HB5 := Lib.hid (bw_call (bw_alloc HA1.out.1 _) hb5)
      clear hb5 hrd
      go_wp2_with fail
      go_ret2
      rw [hbe.out]
      exact ⟨rfl, HB5.out⟩
    | true =>
      have HLN := Lib.hid hln
      have hpl : t.tparts = [bstr t.body, bstr t.tag] ++ [bstr t.by_] := by rw [TX.tparts, if_pos hln]
      have HPL := Lib.hid hpl
      clear hln hpl
      go_enter Tryd.func13, Tryd.ntmps13
      go_wp2_with (with_reducible refine wpList_load_rows rfl 25 (.tmp 1) rfl w.heap.size 0 t.cells t.cells 25 (0, 0) _ rfl hg0 id_at Tryd.underlying25 rfl (tx_info HT.out) ?_)
      refine (body_any t _ HT.out).mono ?_
      rintro e w1 ⟨rfl, hb1⟩
      rw [← HK.out, hbd.out]
      have hA1 := HA0.out.below hb1 hlt (bw_call (bw_alloc (Below.refl _ _) _) hb1)
      have hcv := fun c => conv_tx hA1 HT.out.tag (TX.at_tag HT.out.by_) c
      have hcw := fun Z c => conv_tx (hA1.below (bw_alloc (Below.refl w1.heap.size w1) Z) (block_lt hA1.2) (bw_alloc hA1.1 Z)) HT.out.by_ TX.at_by c
      have hc5 : w1.cell? ⟨w.heap.size, 5, none⟩ = some (.bool true) := by have := hA1.cell 5 _ rfl; rw [HLN.out] at this; exact this
      have hc6 := fun Z => (Below.cell (bw_alloc (Below.refl w1.heap.size w1) Z) (p := ⟨w.heap.size, 5, none⟩) (block_lt hA1.2)).trans hc5
      have hO : (w1.alloc (.cells #[.string (bstr t.body), .string (bstr t.tag)] 9)).ownsRow w1.heap.size 9 1 (.slice (some ⟨w1.heap.size, 0, none⟩) 2 2) 2 (strs [bstr t.body, bstr t.tag]) :=
        ⟨rfl, .inr ⟨_, 2, #[.string (bstr t.body), .string (bstr t.tag)], rfl, Nat.le_refl _, heap_alloc_new w1 _, Nat.le_refl _, by simp [maxLen], rfl, rfl⟩⟩
      have HO := Lib.hid hO
      have hs1 := hA1.1.size
      have HB1 := Lib.hid (bw_alloc hA1.1 (.cells #[.string (bstr t.body), .string (bstr t.tag)] 9))
      clear hA1 hb1 hO
      go_wp2_with (at_builtin; refine wpList_app1 rfl (.tmp 22) (.tmp 26) 80 9 rfl Tryd.underlying80 _ str_info (.string ByteArray.empty) rfl rfl rfl 16 rfl w1.heap.size _ 2 _ rfl HO.out (.string (bstr t.by_)) rfl (by show Value.slice (some ⟨w1.heap.size + 1, 0, none⟩) 1 1 = _; simp) 9 (by decide) (by decide) w HB1.out (by simp) hs1 ?_; intro v3 w3 hO3 hB3)
      have hrd : RdStrs w3 v3 t.tparts := by rw [HPL.out]; exact RdStrs.of_own hO3.out (by decide) (own_pos hO3.out)
      refine (list_ok _ t.tparts _ hrd (Nat.le_trans TX.tparts_length (by decide)) (Nat.le_trans (TX.tparts_tot HCK.out HT.out) (by decide))).mono ?_
      rintro e w5 ⟨rfl, hb5⟩
      have HB5 := Lib.hid (bw_call hB3.out hb5)
      clear hb5 hrd
      go_wp2_with fail
      go_ret2
      rw [hbe.out]
      exact ⟨rfl, HB5.out⟩
  · have hkb : (k != 0) = true := by simpa using hk0
    have hbe : Hid (b = ByteArray.empty) := show _ = _ by rw [HBS.out, TX.textS, if_neg (by rw [← HK.out]; exact hk0)]
    clear hk
    go_enter Tryd.func13, Tryd.ntmps13
    go_wp2_with (with_reducible refine wpList_load_rows rfl 25 (.tmp 1) rfl w.heap.size 0 t.cells t.cells 25 (0, 0) _ rfl hg0 id_at Tryd.underlying25 rfl (tx_info HT.out) ?_)
    refine (body_any t _ HT.out).mono ?_
    rintro e w1 ⟨rfl, hb1⟩
    rw [← HK.out]
    go_wp2_with fail
    go_ret2
    rw [hbe.out]
    exact ⟨rfl, bw_call (bw_alloc (Below.refl _ _) _) hb1⟩
end Go.Proofs.YtckfdmkjeocadaaDoor
