/- tx.Signed, tx.Sign: what the calls do. -/
import Derived.Test.YtckfdmkjeocadaaDoorReadB
import Derived.Test.YtckfdmkjeocadaaDoorSeal
namespace Go.Proofs.YtckfdmkjeocadaaDoor
open Go.RowKit
set_option maxHeartbeats 1000000
set_option maxRecDepth 4000
def TX.tagNow (t : TX) : List UInt8 := tagOf t.frm.toNat 1 t.body
def TX.signed (t : TX) : Int := if t.chk = 0 then errTag t.tagNow t.tag else t.chk
def setTag (t : TX) (l : List UInt8) : TX := { t with tag := l }
def TX.signRes (t : TX) : TX := if t.chk = 0 then setTag t t.tagNow else TX.zero
theorem bodyS_ok {t : TX} (h : t.chk = 0) : t.bodyS.size ≤ 70368744177664 ∧ t.bodyS.data.toList = t.body := by
  rw [TX.bodyS, if_pos h]
  refine ⟨?_, rfl⟩
  have := TX.body_length h
  rw [bstr_size]
  omega
theorem setTag_wf {t : TX} (h : t.wf) {l : List UInt8} (hl : l.length = 32) : (setTag t l).wf := ⟨h.frm, h.nonce, h.fee, h.to_, h.data, h.round, h.turn, h.by_, hl⟩
theorem tag_cells {t : TX} (h : t.wf) {l : List UInt8} (hl : l.length = 32) : splice t.cells 40 (u8s l) = (setTag t l).cells := by
  have h1 : (u8s l).length = 32 := by rw [u8s_length]; exact hl
  have h2 : (u8s t.by_).length = 32 := by rw [u8s_length]; exact h.by_
  have h3 : (u8s t.tag).length = 32 := by rw [u8s_length]; exact h.tag
  unfold splice
  rw [h1]
  simp [TX.cells, setTag, h2, h3]
theorem tag_fits {t : TX} (h : t.wf) {l : List UInt8} (hl : l.length = 32) : 40 + (u8s l).length ≤ t.cells.length := by
  rw [TX.cells_length t h.by_ h.tag, u8s_length]
  omega
theorem signed_any (t : TX) (w : World) (ht : t.wf) (hR : RoundsAt w) :
    Calls Tryd.prog 27 #[.agg t.cells.toArray] w fun e w' => e = .returned (.int .i64 t.signed) ∧ Below w.heap.size w w' := by
  have HT := Lib.hid ht
  have HR := Lib.hid hR
  have hA0 := TxAt.start w t
  have hg0 := hA0.2
  have HA0 := Lib.hid hA0
  clear hA0 ht hR
  obtain ⟨k, hk⟩ : ∃ k, k = t.chk := ⟨_, rfl⟩
  obtain ⟨r, hr⟩ : ∃ r, r = t.signed := ⟨_, rfl⟩
  obtain ⟨b, hb⟩ : ∃ b, b = t.bodyS := ⟨_, rfl⟩
  have HK := Lib.hid hk
  have HRS := Lib.hid hr
  have HBS := Lib.hid hb
  rw [← hr]
  clear hb hr
  have hlt : w.heap.size < (w.alloc (.cells t.cells.toArray 25)).heap.size := by simp
  by_cases hk0 : k = 0
  · subst hk0
    have hck : t.chk = 0 := hk.symm
    have HCK := Lib.hid hck
    have hr2 : Hid (r = errTag t.tagNow t.tag) := show _ = _ by rw [HRS.out, TX.signed, if_pos hck]
    clear hk hck
    go_enter Tryd.func27, Tryd.ntmps27
    go_wp2_with (with_reducible refine wpList_load_rows rfl 25 (.tmp 1) rfl w.heap.size 0 t.cells t.cells 25 (0, 0) _ rfl hg0 id_at Tryd.underlying25 rfl (tx_info HT.out) ?_)
    refine (body_any t _ HT.out).mono ?_
    rintro e w1 ⟨rfl, hb1⟩
    rw [← HK.out, ← HBS.out]
    have hA1 := HA0.out.below hb1 hlt (bw_call (bw_alloc (Below.refl _ _) _) hb1)
    have hg1 := hA1.2
    have hc0 := hA1.cell 0 _ rfl
    have HA1 := Lib.hid hA1
    clear hA1 hb1 hg0
    go_wp2_with (with_reducible refine wpList_load_rows rfl 23 (.tmp 16) rfl w.heap.size 40 (u8s t.tag) t.cells 25 (0, 0) _ rfl hg1 (TX.at_tag HT.out.by_) Tryd.underlying23 rfl (hash_info HT.out.tag) ?_)
    have hz := TX.chk_zero HCK.out
    have hbo := bodyS_ok HCK.out
    refine (check_ok t.frm 1 b t.tag _ hz.1.1.1.1 (by omega) (by decide) (by decide) (by rw [HBS.out]; exact hbo.1) HT.out.tag (HR.out.below HA1.out.1 HR.out.1)).mono ?_
    rintro e w5 ⟨rfl, hb5⟩
    have HB5 := Lib.hid (bw_call HA1.out.1 hb5)
    have HTG : Hid (tagOf t.frm.toNat 1 b.data.toList = t.tagNow) := show _ = _ by rw [HBS.out, hbo.2]; rfl
    clear hb5 hz hbo
    go_wp2_with fail
    go_ret
    rw [hr2.out, HTG.out]
    exact ⟨rfl, HB5.out⟩
  · have hkb : (k != 0) = true := by simpa using hk0
    have hr2 : Hid (r = k) := show _ = _ by rw [HRS.out, TX.signed, if_neg (by rw [← HK.out]; exact hk0), HK.out]
    clear hk
    go_enter Tryd.func27, Tryd.ntmps27
    go_wp2_with (with_reducible refine wpList_load_rows rfl 25 (.tmp 1) rfl w.heap.size 0 t.cells t.cells 25 (0, 0) _ rfl hg0 id_at Tryd.underlying25 rfl (tx_info HT.out) ?_)
    refine (body_any t _ HT.out).mono ?_
    rintro e w1 ⟨rfl, hb1⟩
    rw [← HK.out]
    go_wp2_with fail
    go_ret
    rw [hr2.out]
    exact ⟨rfl, bw_call (bw_alloc (Below.refl _ _) _) hb1⟩
theorem sign_any (t : TX) (w : World) (ht : t.wf) (hR : RoundsAt w) :
    Calls Tryd.prog 23 #[.agg t.cells.toArray] w fun e w' => e = .returned (.tuple #[.agg t.signRes.cells.toArray, .int .i64 t.chk]) ∧ Below w.heap.size w w' := by
  have HT := Lib.hid ht
  have HR := Lib.hid hR
  have hA0 := TxAt.start w t
  have hA01 : TxAt w ((w.alloc (.cells t.cells.toArray 25)).alloc (.cells Tryd.zeroCells25 25)) t := hA0.below (bw_alloc (Below.refl _ _) _) (by simp) (bw_alloc hA0.1 _)
  have hg0 := hA01.2
  have hz0 : ((w.alloc (.cells t.cells.toArray 25)).alloc (.cells Tryd.zeroCells25 25)).heap[w.heap.size + 1]? = some (.cells zlTx.toArray 25 (0, 0)) := heap_alloc2_new w _ _
  have HA0 := Lib.hid hA01
  have HZ0 := Lib.hid hz0
  clear hA0 hA01 ht hR
  obtain ⟨k, hk⟩ : ∃ k, k = t.chk := ⟨_, rfl⟩
  obtain ⟨r, hr⟩ : ∃ r, r = t.signRes := ⟨_, rfl⟩
  obtain ⟨b, hb⟩ : ∃ b, b = t.bodyS := ⟨_, rfl⟩
  have HK := Lib.hid hk
  have HRS := Lib.hid hr
  have HBS := Lib.hid hb
  rw [← hr, ← hk]
  clear hb hr hz0
  have hlt : w.heap.size < ((w.alloc (.cells t.cells.toArray 25)).alloc (.cells Tryd.zeroCells25 25)).heap.size := by simp; omega
  by_cases hk0 : k = 0
  · subst hk0
    have hck : t.chk = 0 := hk.symm
    have HCK := Lib.hid hck
    have hr2 : Hid (r = setTag t t.tagNow) := show _ = _ by rw [HRS.out, TX.signRes, if_pos hck]
    clear hk hck
    go_enter Tryd.func23, Tryd.ntmps23
    go_wp2_with (with_reducible refine wpList_load_rows rfl 25 (.tmp 1) rfl w.heap.size 0 t.cells t.cells 25 (0, 0) _ rfl hg0 id_at Tryd.underlying25 rfl (tx_info HT.out) ?_)
    refine (body_any t _ HT.out).mono ?_
    rintro e w1 ⟨rfl, hb1⟩
    rw [← HK.out, ← HBS.out]
    have hA1 := HA0.out.below hb1 hlt (bw_call HA0.out.1 hb1)
    have hc0 := hA1.cell 0 _ rfl
    have HA1 := Lib.hid hA1
    have HZ1 := Lib.hid ((hb1.block _ (block_lt HZ0.out)).trans HZ0.out)
    clear hA1 hb1 hg0
    go_wp2_with fail
    have hz := TX.chk_zero HCK.out
    have hbo := bodyS_ok HCK.out
    refine (tag_ok t.frm 1 b _ hz.1.1.1.1 (by omega) (by decide) (by decide) (by rw [HBS.out]; exact hbo.1) (HR.out.below HA1.out.1 HR.out.1)).mono ?_
    rintro e w5 ⟨rfl, hb5⟩
    obtain ⟨g, hg⟩ : ∃ g, g = tagOf t.frm.toNat (1 : Int).toNat b.data.toList := ⟨_, rfl⟩
    rw [← hg]
    have HGL : Hid (g.length = 32) := show _ = _ by rw [hg]; exact tagOf_length _ _ _
    have HTG : Hid (r = setTag t g) := show _ = _ by rw [hr2.out, hg, HBS.out, hbo.2]; rfl
    have hA5 := HA1.out.below hb5 (block_lt HA1.out.2) (bw_call HA1.out.1 hb5)
    have hg5 := hA5.2
    have HZ5 := Lib.hid ((hb5.block _ (block_lt HZ1.out)).trans HZ1.out)
    have HA5 := Lib.hid hA5
    have HWF := Lib.hid (setTag_wf HT.out HGL.out)
    have HLEN : Hid ((setTag t g).cells.length = zlTx.length) := show _ = _ from (setTag t g).cells_length HWF.out.by_ HWF.out.tag
    clear hb5 hz hbo hg hA5
    go_wp2_with (first
      | ((with_reducible refine wpList_store_rows rfl 23 (.tmp 22) (.tmp 20) rfl w.heap.size 40 (u8s g) t.cells 25 rfl rfl hg5 (tag_fits HT.out HGL.out) (hash_info HGL.out) (u8s_one _) ?_); intro w6 hU6; have hT6 := hU6.out.at_; rw [tag_cells HT.out HGL.out] at hT6; have hz6 := (hU6.out.other _ (by omega)).trans HZ5.out; have HB6 := Lib.hid (hU6.out.below HA5.out.1 (Nat.le_refl _)); clear hg5)
      | (with_reducible refine wpList_load_rows rfl 25 (.tmp 1) rfl w.heap.size 0 (setTag t g).cells (setTag t g).cells 25 (0, 0) _ rfl hT6 id_at Tryd.underlying25 rfl (tx_info HWF.out) ?_)
      | ((with_reducible refine wpList_store_whole rfl 25 (.tmp 2) (.tmp 23) rfl (w.heap.size + 1) (setTag t g).cells zlTx 25 rfl rfl hz6 HLEN.out (tx_info HWF.out) (start_one _) ?_); intro w7 hU))
    rw [HTG.out]
    exact post_cell_tmp 2 3 25 rfl (w.heap.size + 1) _ (setTag t g).cells _ _ hU.out.at_ Tryd.underlying25 rfl (tx_info HWF.out) (.int .i64 0) rfl rfl rfl ⟨rfl, hU.out.below HB6.out (Nat.le_succ _)⟩
  · have hkb : (k != 0) = true := by simpa using hk0
    have hr2 : Hid (r = TX.zero) := show _ = _ by rw [HRS.out, TX.signRes, if_neg (by rw [← HK.out]; exact hk0)]
    clear hk
    go_enter Tryd.func23, Tryd.ntmps23
    go_wp2_with (with_reducible refine wpList_load_rows rfl 25 (.tmp 1) rfl w.heap.size 0 t.cells t.cells 25 (0, 0) _ rfl hg0 id_at Tryd.underlying25 rfl (tx_info HT.out) ?_)
    refine (body_any t _ HT.out).mono ?_
    rintro e w1 ⟨rfl, hb1⟩
    rw [← HK.out]
    have hz1 := (hb1.block _ (block_lt HZ0.out)).trans HZ0.out
    have HB1 := Lib.hid (bw_call HA0.out.1 hb1)
    clear hb1
    go_wp2_with (first
      | (with_reducible refine wpList_build rfl 25 [] rfl [] (.agg zlTx.toArray) rfl (tx_build0 _) ?_)
      | ((with_reducible refine wpList_store_whole rfl 25 (.tmp 2) (.tmp 13) rfl (w.heap.size + 1) zlTx zlTx 25 rfl rfl hz1 rfl zlTx_info zlTx_one ?_); intro w2 hU))
    rw [hr2.out]
    exact post_cell_tmp 2 3 25 rfl (w.heap.size + 1) _ zlTx _ _ hU.out.at_ Tryd.underlying25 rfl zlTx_info (.int .i64 k) rfl rfl rfl ⟨rfl, hU.out.below HB1.out (Nat.le_succ _)⟩
end Go.Proofs.YtckfdmkjeocadaaDoor
