/- The reference's Body, Text of a transaction: what the calls do. -/
import Derived.Test.YtckfdmkjeocadaaDoorRCheck
import Derived.Test.YtckfdmkjeocadaaDoorRSeal
import Derived.Test.YtckfdmkjeocadaaDoorText
namespace Go.Proofs.YtckfdmkjeocadaaDoor
open Go.RowKit
set_option maxHeartbeats 1000000
set_option maxRecDepth 4000
theorem keepTx {w W : World} {t : TX} (h : TxAt w W t) {W' : World} (hb : Below W.heap.size W W') : TxAt w W' t := h.below hb (block_lt h.2) (bw_call h.1 hb)
theorem TxAt.grown {w W W' : World} {t : TX} {row : Option Nat} (h : TxAt w W t) (hg : W.grownBy W' row) (hr : ∀ k, row = some k → w.heap.size < k) : TxAt w W' t :=
  ⟨h.1.grown hg h.1.size (fun k hk => Nat.le_of_lt (hr k hk)), (hg.block _ (block_lt h.2) (fun e => by have := hr _ e.symm; omega)).trans h.2⟩
theorem news_at {W : World} {cs : List Value} {t : TypeId} : ∀ j u, cs[j]? = some u → (W.alloc (.cells cs.toArray t)).cell? ((⟨W.heap.size, 0, none⟩ : Addr).add j) = some u := fun j u hj => by
  have hadd : (⟨W.heap.size, 0, none⟩ : Addr).add j = ⟨W.heap.size, j, none⟩ := by unfold Addr.add; split <;> simp_all
  rw [hadd, cell_of_row _ W.heap.size j _ _ _ (heap_alloc_new W _), List.getElem?_toArray]
  exact hj
theorem own_all {W : World} {cs : List Value} {n : Nat} (hn : cs.length = n) (hm : n ≤ maxLen) : (W.alloc (.cells cs.toArray 9)).ownsRow W.heap.size 9 1 (.slice (some ⟨W.heap.size, 0, none⟩) n n) n cs :=
  ⟨by omega, .inr ⟨_, n, cs.toArray, rfl, Nat.le_refl _, heap_alloc_new W _, Nat.le_refl _, hm, by simpa using hn, by rw [Nat.mul_one, ← hn, List.take_length]⟩⟩
theorem strs_cells (ls : List ByteArray) : ∀ u ∈ strs ls, u.oneCell' = true := by
  intro u hu
  obtain ⟨x, _, rfl⟩ := List.mem_map.1 hu
  rfl
theorem own_lt {w : World} {base n c g : Nat} {e : TypeId} {xs : List Value} (h : w.ownsRow base e 1 (.slice (some ⟨g, 0, none⟩) n c) n xs) : g < w.heap.size := by
  rcases h.2 with ⟨h2, _⟩ | ⟨g', cap, cur, hv, _, hg, _⟩
  · cases h2
  · cases hv; exact block_lt hg
theorem rbody_any (t : TX) (w : World) (ht : t.wf) :
    Calls Tryd.prog 17 #[.agg t.cells.toArray] w fun e w' => e = .returned (.tuple #[.string t.bodyS, .int .i64 t.chk]) ∧ Below w.heap.size w w' := by
  have HT := Lib.hid ht
  have hA0 := TxAt.start w t
  have hg0 := hA0.2
  have HA0 := Lib.hid hA0
  clear hA0 ht
  obtain ⟨k, hk⟩ : ∃ k, k = t.chk := ⟨_, rfl⟩
  obtain ⟨b, hb⟩ : ∃ b, b = t.bodyS := ⟨_, rfl⟩
  have HK := Lib.hid hk
  have HBS := Lib.hid hb
  rw [← hb, ← hk]
  clear hb
  have hlt : w.heap.size < (w.alloc (.cells t.cells.toArray 25)).heap.size := by simp
  by_cases hk0 : k = 0
  · subst hk0
    have hck : t.chk = 0 := hk.symm
    have hbs : b = bstr t.body := by rw [HBS.out, TX.bodyS, if_pos hck]
    have HBB := Lib.hid hbs
    have HCK := Lib.hid hck
    have hz := TX.chk_zero hck
    obtain ⟨⟨⟨⟨z1, z2⟩, z3⟩, z4⟩, ⟨z5, z6⟩, ⟨z7, z8⟩, z9, z10⟩ := hz
    have HLOK := Lib.hid z9
    clear hk hck hbs z9
    go_enter Tryd.func17, Tryd.ntmps17
    go_wp2_with (with_reducible refine wpList_load_rows rfl 25 (.tmp 1) rfl w.heap.size 0 t.cells t.cells 25 (0, 0) _ rfl hg0 id_at Tryd.underlying25 rfl (tx_info HT.out) ?_)
    refine (rcheck_any t _ HT.out).mono ?_
    rintro e w1 ⟨rfl, hb1⟩
    rw [← HK.out]
    have hA1 := HA0.out.below hb1 hlt (bw_call HA0.out.1 hb1)
    have HA1 := Lib.hid hA1
    clear hA1 hb1 hg0
    have KEEP : Hid (∀ W', TxAt w W' t → (TxAt w W' t ∧ W'.cell? ⟨w.heap.size, 0, none⟩ = some (.int .i64 t.frm) ∧ W'.cell? ⟨w.heap.size, 1, none⟩ = some (.int .i64 t.nonce) ∧ W'.cell? ⟨w.heap.size, 2, none⟩ = some (.int .i64 t.fee) ∧ W'.cell? ⟨w.heap.size, 3, none⟩ = some (.int .i64 t.to_) ∧ W'.cell? ⟨w.heap.size, 4, none⟩ = some (.string t.data))) := show ∀ W', _ from fun W' h => ⟨h, h.cell 0 _ rfl, h.cell 1 _ rfl, h.cell 2 _ rfl, h.cell 3 _ rfl, h.cell 4 _ rfl⟩
    have hT1 := HA1.out
    go_wp2_with fail
    go_region_held3 (fun W' => TxAt w W' t ∧ W'.cell? ⟨w.heap.size, 0, none⟩ = some (.int .i64 t.frm) ∧ W'.cell? ⟨w.heap.size, 1, none⟩ = some (.int .i64 t.nonce) ∧ W'.cell? ⟨w.heap.size, 2, none⟩ = some (.int .i64 t.fee) ∧ W'.cell? ⟨w.heap.size, 3, none⟩ = some (.int .i64 t.to_) ∧ W'.cell? ⟨w.heap.size, 4, none⟩ = some (.string t.data))
      (first | assumption | exact KEEP.out _ hT1 | exact KEEP.out _ (keepTx hT1 (Below.refl _ _).drew) | exact KEEP.out _ hTN | exact KEEP.out _ (keepTx hTN (bw_alloc (Below.refl _ _) _)) | fail)
      (first | (go_at_call 62; refine (rnum4_any _ _ (by omega) (by omega)).mono ?_; rintro e w' ⟨rfl, hbN⟩; have hTN : TxAt w w' t := keepTx (And.left (by assumption)) hbN))
    have hO3 : (w'.alloc (.cells (strs [numS t.frm.toNat, numS t.nonce.toNat, numS t.fee.toNat, numS t.to_.toNat, t.data]).toArray 9)).ownsRow w'.heap.size 9 1 (.slice (some ⟨w'.heap.size, 0, none⟩) 5 5) 5 (strs [numS t.frm.toNat, numS t.nonce.toNat, numS t.fee.toNat, numS t.to_.toNat, t.data]) := own_all rfl (by unfold maxLen; omega)
    have hB3 : w.heap.size < w'.heap.size := block_lt hTN.2
    have hA3 : TxAt w (w'.alloc (.cells (strs [numS t.frm.toNat, numS t.nonce.toNat, numS t.fee.toNat, numS t.to_.toNat, t.data]).toArray 9)) t := keepTx hTN (bw_alloc (Below.refl _ _) _)
    change Exit.then _ _ _ _ (w'.alloc (.cells (strs [numS t.frm.toNat, numS t.nonce.toNat, numS t.fee.toNat, numS t.to_.toNat, t.data]).toArray 9))
    have hsz3 : w'.heap.size < (w'.alloc (.cells (strs [numS t.frm.toNat, numS t.nonce.toNat, numS t.fee.toNat, numS t.to_.toNat, t.data]).toArray 9)).heap.size := by simp
    have HO3 := Lib.hid hO3
    have HA3 := Lib.hid hA3
    have c5 := hA3.cell 5 _ rfl
    clear hO3 hA3 hTN hbN KEEP
    generalize w'.alloc (.cells (strs [numS t.frm.toNat, numS t.nonce.toNat, numS t.fee.toNat, numS t.to_.toNat, t.data]).toArray 9) = W2 at *
    generalize w'.heap.size = B2 at *
    cases hln : t.lane
    · rw [hln] at c5
      have hp : strs [numS t.frm.toNat, numS t.nonce.toNat, numS t.fee.toNat, numS t.to_.toNat, t.data] = t.parts.map Value.string := by rw [TX.parts, if_neg (by rw [hln]; decide)]; rfl
      have hrd : RdStrs W2 (.slice (some ⟨B2, 0, none⟩) 5 5) t.parts := RdStrs.of_own (by have := HO3.out; rw [hp] at this; exact this) (by omega) (by omega)
      have htot := Nat.le_trans (TX.parts_tot HCK.out) (show 400 ≤ 65536 by decide)
      have hpl := Nat.le_trans (TX.parts_length (t := t)) (show 7 ≤ 1024 by decide)
      go_wp2_with fail
      refine (rlist_ok _ t.parts _ hrd hpl htot).mono ?_
      rintro e w5 ⟨rfl, hb5⟩
      have HB5 := Lib.hid (bw_call HA3.out.1 hb5)
      clear hb5
      go_wp2_with fail
      go_ret2
      exact ⟨by rw [HBB.out]; rfl, HB5.out⟩
    · rw [hln] at c5
      obtain ⟨⟨y1, y2⟩, ⟨y3, y4⟩⟩ := TX.lane_zero_ok HLOK.out hln
      have KEEP : Hid (∀ W', TxAt w W' t → (TxAt w W' t ∧ W'.cell? ⟨w.heap.size, 6, none⟩ = some (.int .i64 t.round) ∧ W'.cell? ⟨w.heap.size, 7, none⟩ = some (.int .i64 t.turn))) := show ∀ W', _ from fun W' h => ⟨h, h.cell 6 _ rfl, h.cell 7 _ rfl⟩
      have hA2 := HA3.out
      have hO2 : W2.drew.ownsRow B2 9 1 (.slice (some ⟨B2, 0, none⟩) 5 5) 5 (strs [numS t.frm.toNat, numS t.nonce.toNat, numS t.fee.toNat, numS t.to_.toNat, t.data]) := HO3.out
      have HLN := Lib.hid hln
      clear hln
      go_wp2_with fail
      go_region_held3 (fun W' => TxAt w W' t ∧ W'.cell? ⟨w.heap.size, 6, none⟩ = some (.int .i64 t.round) ∧ W'.cell? ⟨w.heap.size, 7, none⟩ = some (.int .i64 t.turn))
        (first | assumption | exact KEEP.out _ hA2 | exact KEEP.out _ (keepTx hA2 (Below.refl _ _).drew) | exact KEEP.out _ hTA | exact KEEP.out _ hTN | exact KEEP.out _ (keepTx hTN (bw_alloc (Below.refl _ _) _)) | fail)
        (first | (go_at_call 62; refine (rnum4_any _ _ (by omega) (by omega)).mono ?_; rintro e w' ⟨rfl, hbN⟩; have hTN : TxAt w w' t := keepTx (And.left (by assumption)) hbN; have hON := own_below (by assumption : World.ownsRow _ B2 9 1 (.slice (some ⟨B2, 0, none⟩) 5 5) 5 (strs [numS t.frm.toNat, numS t.nonce.toNat, numS t.fee.toNat, numS t.to_.toNat, t.data])) hbN (Nat.le_refl _)) | (rw [if_pos (by rfl)]; refine wp_append_own _ (.tmp 28) (.tmp 35) 80 rfl B2 9 _ (.string ByteArray.empty) 1 16 Tryd.underlying80 str_info rfl rfl rfl rfl (by decide) _ 5 _ (by rfl) (hON.alloc _) ⟨w'.heap.size, 0, none⟩ 2 2 (strs [numS t.round.toNat, numS t.turn.toNat]) (by rfl) rfl news_at (strs_cells _) (by unfold maxLen; omega) (by omega) (by have := own_lt hON; simp; omega) ?_; intro v5 w5 hO5 hg5 _; have hTA := (keepTx hTN (bw_alloc (Below.refl _ _) _)).grown hg5 (fun k hk => by cases hk; exact hB3)))
      have hp : strs [numS t.frm.toNat, numS t.nonce.toNat, numS t.fee.toNat, numS t.to_.toNat, t.data] ++ strs [numS t.round.toNat, numS t.turn.toNat] = t.parts.map Value.string := by rw [TX.parts, if_pos HLN.out]; rfl
      have hrd : RdStrs w5 v5 t.parts := RdStrs.of_own (by have := hO5; rw [hp] at this; exact this) (by omega) (Nat.lt_of_le_of_lt (Nat.zero_le _) (block_lt hTA.2))
      have htot := Nat.le_trans (TX.parts_tot HCK.out) (show 400 ≤ 65536 by decide)
      have hpl := Nat.le_trans (TX.parts_length (t := t)) (show 7 ≤ 1024 by decide)
      go_wp2_with fail
      refine (rlist_ok _ t.parts _ hrd hpl htot).mono ?_
      rintro e w6 ⟨rfl, hb6⟩
      have HB6 := Lib.hid (bw_call hTA.1 hb6)
      clear hb6
      go_wp2_with fail
      go_ret2
      exact ⟨by rw [HBB.out]; rfl, HB6.out⟩
  · have hkb : (k != 0) = true := by simpa using hk0
    have hbs : b = ByteArray.empty := by rw [HBS.out, TX.bodyS, if_neg (by rw [← HK.out]; exact hk0)]
    subst hbs
    clear hk
    go_enter Tryd.func17, Tryd.ntmps17
    go_wp2_with (with_reducible refine wpList_load_rows rfl 25 (.tmp 1) rfl w.heap.size 0 t.cells t.cells 25 (0, 0) _ rfl hg0 id_at Tryd.underlying25 rfl (tx_info HT.out) ?_)
    refine (rcheck_any t _ HT.out).mono ?_
    rintro e w1 ⟨rfl, hb1⟩
    rw [← HK.out]
    have HB1 := Lib.hid (bw_call HA0.out.1 hb1)
    clear hb1
    go_wp2_with fail
    go_ret2
    exact ⟨rfl, HB1.out⟩
end Go.Proofs.YtckfdmkjeocadaaDoor
