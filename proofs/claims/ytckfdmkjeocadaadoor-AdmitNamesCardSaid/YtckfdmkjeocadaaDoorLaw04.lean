/- tx.Signed, tx.Sign: what the calls do. Numbers, texts and lists of bytes there and back: no program in sight. Transactions there and back: no program in sight. Transactions compared; cavalcadelaw04.awake: what the call does. tx.Hand, tx.Name: what the calls do. -/
import Derived.Test.YtckfdmkjeocadaaDoorReadB
import Derived.Test.YtckfdmkjeocadaaDoorSeal
import Derived.Test.YtckfdmkjeocadaaDoorTxText
namespace Go.Proofs.YtckfdmkjeocadaaDoor
open Go.RowKit
set_option maxHeartbeats 1000000
set_option maxRecDepth 4000
def TX.tagNow (t : TX) : List UInt8 := tagOf t.frm.toNat 1 t.body
def TX.signed (t : TX) : Int := if t.chk = 0 then errTag t.tagNow t.tag else t.chk
def setTag (t : TX) (l : List UInt8) : TX := { t with tag := l }
def TX.signRes (t : TX) : TX := if t.chk = 0 then setTag t t.tagNow else TX.zero
theorem bodyS_ok {t : TX} (h : t.chk = 0) : t.bodyS.size ≤ 70368744177664 ∧ t.bodyS.data.toList = t.body := by
  rw [TX.bodyS, if_pos h]
  refine ⟨?_, rfl⟩
  have := TX.body_length h
  rw [bstr_size]
  omega
theorem setTag_wf {t : TX} (h : t.wf) {l : List UInt8} (hl : l.length = 32) : (setTag t l).wf := ⟨h.frm, h.nonce, h.fee, h.to_, h.data, h.round, h.turn, h.by_, hl⟩
theorem tag_cells {t : TX} (h : t.wf) {l : List UInt8} (hl : l.length = 32) : splice t.cells 40 (u8s l) = (setTag t l).cells := by
  have h1 : (u8s l).length = 32 := by rw [u8s_length]; exact hl
  have h2 : (u8s t.by_).length = 32 := by rw [u8s_length]; exact h.by_
  have h3 : (u8s t.tag).length = 32 := by rw [u8s_length]; exact h.tag
  unfold splice
  rw [h1]
  simp [TX.cells, setTag, h2, h3]
theorem tag_fits {t : TX} (h : t.wf) {l : List UInt8} (hl : l.length = 32) : 40 + (u8s l).length ≤ t.cells.length := by
  rw [TX.cells_length t h.by_ h.tag, u8s_length]
  omega
theorem signed_any (t : TX) (w : World) (ht : t.wf) (hR : RoundsAt w) :
    Calls Tryd.prog 27 #[.agg t.cells.toArray] w fun e w' => e = .returned (.int .i64 t.signed) ∧ Below w.heap.size w w' := by
  have HT := Lib.hid ht
  have HR := Lib.hid hR
  have hA0 := TxAt.start w t
  have hg0 := hA0.2
  have HA0 := Lib.hid hA0
  clear hA0 ht hR
  obtain ⟨k, hk⟩ : ∃ k, k = t.chk := ⟨_, rfl⟩
  obtain ⟨r, hr⟩ : ∃ r, r = t.signed := ⟨_, rfl⟩
  obtain ⟨b, hb⟩ : ∃ b, b = t.bodyS := ⟨_, rfl⟩
  have HK := Lib.hid hk
  have HRS := Lib.hid hr
  have HBS := Lib.hid hb
  rw [← hr]
  clear hb hr
  have hlt : w.heap.size < (w.alloc (.cells t.cells.toArray 25)).heap.size := by simp
  by_cases hk0 : k = 0
  · subst hk0
    have hck : t.chk = 0 := hk.symm
    have HCK := Lib.hid hck
    have hr2 : Hid (r = errTag t.tagNow t.tag) := show _ = _ by rw [HRS.out, TX.signed, if_pos hck]
    clear hk hck
    go_enter Tryd.func27, Tryd.ntmps27
    go_wp2_with (with_reducible refine wpList_load_rows rfl 25 (.tmp 1) rfl w.heap.size 0 t.cells t.cells 25 (0, 0) _ rfl hg0 id_at Tryd.underlying25 rfl (tx_info HT.out) ?_)
    refine (body_any t _ HT.out).mono ?_
    rintro e w1 ⟨rfl, hb1⟩
    rw [← HK.out, ← HBS.out]
    have hA1 := HA0.out.below hb1 hlt (bw_call (bw_alloc (Below.refl _ _) _) hb1)
    have hg1 := hA1.2
    have hc0 := hA1.cell 0 _ rfl
    have HA1 := Lib.hid hA1
    clear hA1 hb1 hg0
    go_wp2_with (with_reducible refine wpList_load_rows rfl 23 (.tmp 16) rfl w.heap.size 40 (u8s t.tag) t.cells 25 (0, 0) _ rfl hg1 (TX.at_tag HT.out.by_) Tryd.underlying23 rfl (hash_info HT.out.tag) ?_)
    have hz := TX.chk_zero HCK.out
    have hbo := bodyS_ok HCK.out
    refine (check_ok t.frm 1 b t.tag _ hz.1.1.1.1 (by omega) (by decide) (by decide) (by rw [HBS.out]; exact hbo.1) HT.out.tag (HR.out.below HA1.out.1 HR.out.1)).mono ?_
    rintro e w5 ⟨rfl, hb5⟩
    have HB5 := Lib.hid (bw_call HA1.out.1 hb5)
    have HTG : Hid (tagOf t.frm.toNat 1 b.data.toList = t.tagNow) := show _ = _ by rw [HBS.out, hbo.2]; rfl
    clear hb5 hz hbo
    go_wp2_with fail
    go_ret
    rw [hr2.out, HTG.out]
    exact ⟨rfl, HB5.out⟩
  · have hkb : (k != 0) = true := by simpa using hk0
    have hr2 : Hid (r = k) := show _ = _ by rw [HRS.out, TX.signed, if_neg (by rw [← HK.out]; exact hk0), HK.out]
    clear hk
    go_enter Tryd.func27, Tryd.ntmps27
    go_wp2_with (with_reducible refine wpList_load_rows rfl 25 (.tmp 1) rfl w.heap.size 0 t.cells t.cells 25 (0, 0) _ rfl hg0 id_at Tryd.underlying25 rfl (tx_info HT.out) ?_)
    refine (body_any t _ HT.out).mono ?_
    rintro e w1 ⟨rfl, hb1⟩
    rw [← HK.out]
    go_wp2_with fail
    go_ret
    rw [hr2.out]
    exact ⟨rfl, bw_call (bw_alloc (Below.refl _ _) _) hb1⟩
theorem sign_any (t : TX) (w : World) (ht : t.wf) (hR : RoundsAt w) :
    Calls Tryd.prog 23 #[.agg t.cells.toArray] w fun e w' => e = .returned (.tuple #[.agg t.signRes.cells.toArray, .int .i64 t.chk]) ∧ Below w.heap.size w w' := by
  have HT := Lib.hid ht
  have HR := Lib.hid hR
  have hA0 := TxAt.start w t
  have hA01 : TxAt w ((w.alloc (.cells t.cells.toArray 25)).alloc (.cells Tryd.zeroCells25 25)) t := hA0.below (bw_alloc (Below.refl _ _) _) (by simp) (bw_alloc hA0.1 _)
  have hg0 := hA01.2
  have hz0 : ((w.alloc (.cells t.cells.toArray 25)).alloc (.cells Tryd.zeroCells25 25)).heap[w.heap.size + 1]? = some (.cells zlTx.toArray 25 (0, 0)) := heap_alloc2_new w _ _
  have HA0 := Lib.hid hA01
  have HZ0 := Lib.hid hz0
  clear hA0 hA01 ht hR
  obtain ⟨k, hk⟩ : ∃ k, k = t.chk := ⟨_, rfl⟩
  obtain ⟨r, hr⟩ : ∃ r, r = t.signRes := ⟨_, rfl⟩
  obtain ⟨b, hb⟩ : ∃ b, b = t.bodyS := ⟨_, rfl⟩
  have HK := Lib.hid hk
  have HRS := Lib.hid hr
  have HBS := Lib.hid hb
  rw [← hr, ← hk]
  clear hb hr hz0
  have hlt : w.heap.size < ((w.alloc (.cells t.cells.toArray 25)).alloc (.cells Tryd.zeroCells25 25)).heap.size := by simp; omega
  by_cases hk0 : k = 0
  · subst hk0
    have hck : t.chk = 0 := hk.symm
    have HCK := Lib.hid hck
    have hr2 : Hid (r = setTag t t.tagNow) := show _ = _ by rw [HRS.out, TX.signRes, if_pos hck]
    clear hk hck
    go_enter Tryd.func23, Tryd.ntmps23
    go_wp2_with (with_reducible refine wpList_load_rows rfl 25 (.tmp 1) rfl w.heap.size 0 t.cells t.cells 25 (0, 0) _ rfl hg0 id_at Tryd.underlying25 rfl (tx_info HT.out) ?_)
    refine (body_any t _ HT.out).mono ?_
    rintro e w1 ⟨rfl, hb1⟩
    rw [← HK.out, ← HBS.out]
    have hA1 := HA0.out.below hb1 hlt (bw_call HA0.out.1 hb1)
    have hc0 := hA1.cell 0 _ rfl
    have HA1 := Lib.hid hA1
    have HZ1 := Lib.hid ((hb1.block _ (block_lt HZ0.out)).trans HZ0.out)
    clear hA1 hb1 hg0
    go_wp2_with fail
    have hz := TX.chk_zero HCK.out
    have hbo := bodyS_ok HCK.out
    refine (tag_ok t.frm 1 b _ hz.1.1.1.1 (by omega) (by decide) (by decide) (by rw [HBS.out]; exact hbo.1) (HR.out.below HA1.out.1 HR.out.1)).mono ?_
    rintro e w5 ⟨rfl, hb5⟩
    obtain ⟨g, hg⟩ : ∃ g, g = tagOf t.frm.toNat (1 : Int).toNat b.data.toList := ⟨_, rfl⟩
    rw [← hg]
    have HGL : Hid (g.length = 32) := show _ = _ by rw [hg]; exact tagOf_length _ _ _
    have HTG : Hid (r = setTag t g) := show _ = _ by rw [hr2.out, hg, HBS.out, hbo.2]; rfl
    have hA5 := HA1.out.below hb5 (block_lt HA1.out.2) (bw_call HA1.out.1 hb5)
    have hg5 := hA5.2
    have HZ5 := Lib.hid ((hb5.block _ (block_lt HZ1.out)).trans HZ1.out)
    have HA5 := Lib.hid hA5
    have HWF := Lib.hid (setTag_wf HT.out HGL.out)
    have HLEN : Hid ((setTag t g).cells.length = zlTx.length) := show _ = _ from (setTag t g).cells_length HWF.out.by_ HWF.out.tag
    clear hb5 hz hbo hg hA5
    go_wp2_with (first
      | ((with_reducible refine wpList_store_rows rfl 23 (.tmp 22) (.tmp 20) rfl w.heap.size 40 (u8s g) t.cells 25 rfl rfl hg5 (tag_fits HT.out HGL.out) (hash_info HGL.out) (u8s_one _) ?_); intro w6 hU6; have hT6 := hU6.out.at_; rw [tag_cells HT.out HGL.out] at hT6; have hz6 := (hU6.out.other _ (by omega)).trans HZ5.out; have HB6 := Lib.hid (hU6.out.below HA5.out.1 (Nat.le_refl _)); clear hg5)
      | (with_reducible refine wpList_load_rows rfl 25 (.tmp 1) rfl w.heap.size 0 (setTag t g).cells (setTag t g).cells 25 (0, 0) _ rfl hT6 id_at Tryd.underlying25 rfl (tx_info HWF.out) ?_)
      | ((with_reducible refine wpList_store_whole rfl 25 (.tmp 2) (.tmp 23) rfl (w.heap.size + 1) (setTag t g).cells zlTx 25 rfl rfl hz6 HLEN.out (tx_info HWF.out) (start_one _) ?_); intro w7 hU))
    rw [HTG.out]
    exact post_cell_tmp 2 3 25 rfl (w.heap.size + 1) _ (setTag t g).cells _ _ hU.out.at_ Tryd.underlying25 rfl (tx_info HWF.out) (.int .i64 0) rfl rfl rfl ⟨rfl, hU.out.below HB6.out (Nat.le_succ _)⟩
  · have hkb : (k != 0) = true := by simpa using hk0
    have hr2 : Hid (r = TX.zero) := show _ = _ by rw [HRS.out, TX.signRes, if_neg (by rw [← HK.out]; exact hk0)]
    clear hk
    go_enter Tryd.func23, Tryd.ntmps23
    go_wp2_with (with_reducible refine wpList_load_rows rfl 25 (.tmp 1) rfl w.heap.size 0 t.cells t.cells 25 (0, 0) _ rfl hg0 id_at Tryd.underlying25 rfl (tx_info HT.out) ?_)
    refine (body_any t _ HT.out).mono ?_
    rintro e w1 ⟨rfl, hb1⟩
    rw [← HK.out]
    have hz1 := (hb1.block _ (block_lt HZ0.out)).trans HZ0.out
    have HB1 := Lib.hid (bw_call HA0.out.1 hb1)
    clear hb1
    go_wp2_with (first
      | (with_reducible refine wpList_build rfl 25 [] rfl [] (.agg zlTx.toArray) rfl (tx_build0 _) ?_)
      | ((with_reducible refine wpList_store_whole rfl 25 (.tmp 2) (.tmp 13) rfl (w.heap.size + 1) zlTx zlTx 25 rfl rfl hz1 rfl zlTx_info zlTx_one ?_); intro w2 hU))
    rw [hr2.out]
    exact post_cell_tmp 2 3 25 rfl (w.heap.size + 1) _ zlTx _ _ hU.out.at_ Tryd.underlying25 rfl zlTx_info (.int .i64 k) rfl rfl rfl ⟨rfl, hU.out.below HB1.out (Nat.le_succ _)⟩
theorem beN_numB : ∀ (k n : Nat), n < 256 ^ k → beN (numB n) = n
  | 0, n, h => by
    have : n = 0 := by simpa using h
    subst this
    rw [numB_zero]
    rfl
  | k + 1, n, h => by
    by_cases h0 : n = 0
    · subst h0; rw [numB_zero]; rfl
    · rw [numB_pos (by omega), beN_snoc, beN_numB k (n / 256) (by rw [Nat.pow_succ] at h; exact Nat.div_lt_of_lt_mul (by omega))]
      have : (UInt8.ofNat (n % 256)).toNat = n % 256 := by simp
      rw [this]
      omega
theorem numB_head : ∀ (k n : Nat), n < 256 ^ k → 0 < n → ∃ b l, numB n = b :: l ∧ 0 < b.toNat
  | 0, n, h, h0 => by
    have : n = 0 := by simpa using h
    omega
  | k + 1, n, h, h0 => by
    rw [numB_pos h0]
    by_cases h1 : n / 256 = 0
    · rw [h1, numB_zero]
      exact ⟨_, [], rfl, by simp; omega⟩
    · obtain ⟨b, l, e, hb⟩ := numB_head k (n / 256) (by rw [Nat.pow_succ] at h; exact Nat.div_lt_of_lt_mul (by omega)) (by omega)
      rw [e]
      exact ⟨b, l ++ [_], rfl, hb⟩
theorem numB_beN_aux : ∀ (m : Nat) (l : List UInt8), l.length = m → (l.headD 1).toNat ≠ 0 → numB (beN l) = l
  | 0, l, hm, _ => by
    have : l = [] := List.length_eq_zero_iff.1 hm
    subst this
    exact numB_zero
  | m + 1, l, hm, h0 => by
    have hne : l ≠ [] := by rintro rfl; simp at hm
    obtain ⟨l', b, rfl⟩ : ∃ l' b, l = l' ++ [b] := ⟨l.dropLast, l.getLast hne, (List.dropLast_concat_getLast hne).symm⟩
    have hm' : l'.length = m := by simpa using hm
    have hb := b.toNat_lt
    have hbb : UInt8.ofNat b.toNat = b := by simp
    by_cases hl : l' = []
    · subst hl
      have h0' : b.toNat ≠ 0 := by simpa using h0
      have e : beN ([] ++ [b]) = b.toNat := by simp [beN]
      rw [e, numB_pos (by omega), show b.toNat / 256 = 0 by omega, numB_zero, show b.toNat % 256 = b.toNat by omega, hbb]
    · have hd : (l'.headD 1).toNat ≠ 0 := by
        cases l' with
        | nil => exact absurd rfl hl
        | cons x y => simpa using h0
      have ih := numB_beN_aux m l' hm' hd
      have hpos : 0 < beN l' := by
        cases l' with
        | nil => exact absurd rfl hl
        | cons x y =>
          rw [beN_cons]
          have hx : 0 < x.toNat := by simp at hd; omega
          have := Nat.mul_pos hx (Nat.pow_pos (n := y.length) (by decide : 0 < 256))
          omega
      rw [beN_snoc, numB_pos (by omega), show (beN l' * 256 + b.toNat) / 256 = beN l' by omega, show (beN l' * 256 + b.toNat) % 256 = b.toNat by omega, ih, hbb]
theorem rdN_enc {n : Nat} (h : n ≤ 9223372036854775807) (r : List UInt8) : rdN (numEnc n ++ r) = .ok (n, (numEnc n).length) := by
  have hl := numB_length_le 8 n (by omega)
  have hk : (UInt8.ofNat (numB n).length).toNat = (numB n).length := by simp; omega
  rw [numEnc_length]
  unfold numEnc
  rw [List.cons_append, rdN, hk, if_neg (by omega), if_neg (by simp), if_neg ?_, List.take_left, beN_numB 8 n (by omega)]
  rintro ⟨h0, h1⟩
  by_cases hn : n = 0
  · subst hn; rw [numB_zero] at h0; simp at h0
  · obtain ⟨b, l, e, hb⟩ := numB_head 8 n (by omega) (by omega)
    have hg : ((numB n ++ r).getD 0 0) = b := by rw [e]; rfl
    rw [hg] at h1
    rcases h1 with h1 | ⟨h8, h1⟩
    · omega
    · have h2 := beN_numB 8 n (by omega)
      rw [e] at h2 h8
      simp only [List.length_cons] at h8
      have h7 : l.length = 7 := by omega
      rw [beN_cons, h7, show (256 : Nat) ^ 7 = 72057594037927936 by decide] at h2
      omega
theorem rdN_back {l : List UInt8} {n c : Nat} (h : rdN l = .ok (n, c)) : l.take c = numEnc n := by
  cases l with
  | nil => simp [rdN] at h
  | cons k t =>
    simp only [rdN] at h
    split at h
    · simp at h
    · split at h
      · simp at h
      · split at h
        · simp at h
        · rename_i h1 h2 h3
          simp only [Except.ok.injEq, Prod.mk.injEq] at h
          obtain ⟨rfl, rfl⟩ := h
          have hlen : (t.take k.toNat).length = k.toNat := by rw [List.length_take]; omega
          have hb : numB (beN (t.take k.toNat)) = t.take k.toNat := by
            refine numB_beN_aux _ _ rfl ?_
            cases t with
            | nil => simp
            | cons x y =>
              by_cases hk : k.toNat = 0
              · rw [hk]; simp
              · obtain ⟨j, hj⟩ : ∃ j, k.toNat = j + 1 := ⟨k.toNat - 1, by omega⟩
                rw [hj, List.take_succ_cons]
                intro hx
                exact h3 ⟨by omega, .inl (by simpa using hx)⟩
          unfold numEnc
          rw [hb, hlen, List.take_succ_cons]
          simp
theorem rdT_enc {s : ByteArray} (h : s.size ≤ 65536) (r : List UInt8) : rdT (encText s ++ r) = .ok (s.data.toList, (encText s).length) := by
  have hs : s.data.toList.length = s.size := rfl
  unfold rdT encText
  rw [List.append_assoc, rdN_enc (by omega)]
  simp only
  rw [if_neg (by omega), if_neg (by simp), List.drop_left, List.length_append, hs, ← hs, List.take_left]
theorem rdT_back {l t : List UInt8} {c : Nat} (h : rdT l = .ok (t, c)) : l.take c = encText (bstr t) := by
  obtain ⟨_, _, _, n, d, hn, h1, h2, rfl, rfl⟩ := rdT_ok h
  have hb := rdN_back hn
  unfold encText
  rw [bstr_toList, bstr_size, List.length_take, List.length_drop, Nat.min_eq_left (by omega), ← hb, List.take_add]
theorem rdLs_enc : ∀ (ls : List ByteArray) (left : Nat) (r : List UInt8), tot ls ≤ left → left ≤ 65536 → rdLs ls.length left (encTexts ls ++ r) = .ok (ls, (encTexts ls).length)
  | [], left, r, _, _ => by simp [rdLs, encTexts]
  | s :: ls, left, r, h, hl => by
    have hs : s.data.toList.length = s.size := rfl
    have ht : tot (s :: ls) = s.size + tot ls := by simp [tot]
    have ih := rdLs_enc ls (left - s.size) r (by omega) (by omega)
    have he : encTexts (s :: ls) = encText s ++ encTexts ls := by simp [encTexts]
    rw [List.length_cons, rdLs, he, List.append_assoc, rdT_enc (by omega)]
    simp only
    rw [if_neg (by omega), List.drop_left, hs, ih]
    simp [bstr_of]
theorem rdLs_back : ∀ {n left : Nat} {l : List UInt8} {ts : List ByteArray} {c : Nat}, rdLs n left l = .ok (ts, c) → l.take c = encTexts ts
  | 0, left, l, ts, c, h => by simp [rdLs] at h; obtain ⟨rfl, rfl⟩ := h; simp [encTexts]
  | n + 1, left, l, ts, c, h => by
    simp only [rdLs] at h
    split at h
    · simp at h
    · rename_i t d ht
      have h0 := rdT_back ht
      split at h
      · simp at h
      · split at h
        · simp at h
        · rename_i us d2 hu
          simp only [Except.ok.injEq, Prod.mk.injEq] at h
          obtain ⟨rfl, rfl⟩ := h
          have ih := rdLs_back hu
          rw [List.take_add, h0, ih]
          simp [encTexts]
theorem rdAll_enc {ls : List ByteArray} (hl : ls.length ≤ 1024) (ht : tot ls ≤ 65536) : rdAll (bstr (encList ls)) = .ok ls := by
  have h1 := rdLs_enc ls 65536 [] ht (Nat.le_refl _)
  rw [List.append_nil] at h1
  unfold rdAll rdL
  rw [bstr_toList, bstr_size]
  unfold encList
  rw [rdN_enc (by omega)]
  simp only
  rw [if_neg (by omega), List.drop_left, h1]
  simp only
  rw [List.length_append, if_pos rfl]
theorem rdAll_back {s : ByteArray} {ls : List ByteArray} (h : rdAll s = .ok ls) : s = bstr (encList ls) := by
  unfold rdAll at h
  split at h
  · simp at h
  · rename_i us c hc
    split at h
    · rename_i hcs
      simp at h
      subst h
      unfold rdL at hc
      split at hc
      · simp at hc
      · rename_i n d hn
        split at hc
        · simp at hc
        · split at hc
          · simp at hc
          · rename_i vs e hv
            simp only [Except.ok.injEq, Prod.mk.injEq] at hc
            obtain ⟨rfl, rfl⟩ := hc
            have h1 := rdN_back hn
            have h2 := rdLs_back hv
            have h3 := (rdLs_ok hv).1
            rw [← bstr_of s]
            congr 1
            unfold encList
            rw [h3, ← h1, ← h2, ← List.take_add, List.take_of_length_le (by rw [hcs]; exact Nat.le_refl _)]
    · simp at h
theorem rdNum_enc {n : Nat} (h : n ≤ 9223372036854775807) : rdNum (numS n) = .ok n := by
  have := rdN_enc h []
  rw [List.append_nil] at this
  unfold rdNum numS
  rw [bstr_toList, bstr_size, this]
  simp
theorem rdNum_back {s : ByteArray} {n : Nat} (h : rdNum s = .ok n) : s = numS n := by
  unfold rdNum at h
  split at h
  · simp at h
  · rename_i m c hc
    split at h
    · rename_i hcs
      simp at h
      subst h
      have := rdN_back hc
      rw [List.take_of_length_le (by rw [hcs]; exact Nat.le_refl _)] at this
      unfold numS
      rw [← this, bstr_of]
    · simp at h
theorem rdNums_ok {k : Nat} {x : ByteArray} {xs : List ByteArray} {t u : TX} (h4 : k ≠ 4) (h : rdNums k (x :: xs) t = .ok u) : ∃ n, rdNum x = .ok n ∧ rdNums (k + 1) xs (t.upd k n) = .ok u := by
  rw [rdNums, if_neg h4] at h
  split at h
  · simp at h
  · rename_i n hn
    exact ⟨n, hn, h⟩
theorem rdNums_in {k : Nat} {n : Nat} {xs : List ByteArray} {t : TX} (h4 : k ≠ 4) (hn : n ≤ 9223372036854775807) : rdNums k (numS n :: xs) t = rdNums (k + 1) xs (t.upd k n) := by
  rw [rdNums, if_neg h4, rdNum_enc hn]
theorem rdNums_skip {x : ByteArray} {xs : List ByteArray} {t : TX} : rdNums 4 (x :: xs) t = rdNums 5 xs t := by
  rw [rdNums, if_pos rfl]
theorem rdNum_le {s : ByteArray} {n : Nat} (h : rdNum s = .ok n) : n ≤ 9223372036854775807 := by
  unfold rdNum at h
  split at h
  · simp at h
  · rename_i m c hc
    split at h
    · simp at h
      subst h
      exact (rdN_ok hc).2.2.2
    · simp at h
theorem tx_there {t : TX} (hw : t.wf) (hc : t.chk = 0) : rdTx (bstr t.text) = .ok t := by
  have hz := TX.chk_zero hc
  have hA : rdAll (bstr t.text) = .ok t.tparts := rdAll_enc (Nat.le_trans TX.tparts_length (by decide)) (Nat.le_trans (TX.tparts_tot hc hw) (by decide))
  have hB : rdAll (bstr t.body) = .ok t.parts := rdAll_enc (Nat.le_trans TX.parts_length (by decide)) (Nat.le_trans (TX.parts_tot hc) (by decide))
  have hyt : (bstr t.tag).size = 32 := hw.tag
  have hyb : (bstr t.by_).size = 32 := hw.by_
  have e0 : ((t.frm.toNat : Nat) : Int) = t.frm := Int.toNat_of_nonneg (by omega)
  have e1 : ((t.nonce.toNat : Nat) : Int) = t.nonce := Int.toNat_of_nonneg (by omega)
  have e2 : ((t.fee.toNat : Nat) : Int) = t.fee := Int.toNat_of_nonneg (by omega)
  have e3 : ((t.to_.toNat : Nat) : Int) = t.to_ := Int.toNat_of_nonneg (by omega)
  have hlok := hz.2.2.2.1
  cases hl : t.lane with
  | false =>
    unfold TX.lok at hlok
    rw [hl, if_neg (by decide)] at hlok
    have hp : t.parts = [numS t.frm.toNat, numS t.nonce.toNat, numS t.fee.toNat, numS t.to_.toNat, t.data] := by
      rw [TX.parts, hl, if_neg (by decide)]; rfl
    have ht : t.tparts = [bstr t.body, bstr t.tag] := by rw [TX.tparts, hl, if_neg (by decide)]; rfl
    rw [ht] at hA
    rw [rdTx, hA]
    simp only
    rw [if_pos hyt, rdParts, hB]
    simp only
    rw [hp, if_neg (by simp)]
    unfold rdBody
    rw [rdNums_in (by decide) (by omega), rdNums_in (by decide) (by omega), rdNums_in (by decide) (by omega), rdNums_in (by decide) (by omega), rdNums_skip, rdNums]
    simp only
    have hu : ((((TX.start t.data false t.tag).upd 0 t.frm.toNat).upd 1 t.nonce.toNat).upd 2 t.fee.toNat).upd 3 t.to_.toNat = t := by
      obtain ⟨a, b, c, d, e, f, g, h, i, j⟩ := t
      simp only at e0 e1 e2 e3 hl hlok
      simp only [TX.start, TX.upd, e0, e1, e2, e3, hl, hlok]
    have hg : [numS t.frm.toNat, numS t.nonce.toNat, numS t.fee.toNat, numS t.to_.toNat, t.data].getD 4 ByteArray.empty = t.data := rfl
    rw [hg, bstr_toList]
    split
    · rename_i h
      exact absurd (h.symm.trans (show _ = false from rfl)) (by decide)
    · refine (congrArg rdEnd (show _ = t from hu)).trans ?_
      rw [rdEnd, if_pos hc]
  | true =>
    have hlz := TX.lane_zero_ok hlok hl
    have e5 : ((t.round.toNat : Nat) : Int) = t.round := Int.toNat_of_nonneg (by omega)
    have e6 : ((t.turn.toNat : Nat) : Int) = t.turn := Int.toNat_of_nonneg (by omega)
    have hp : t.parts = [numS t.frm.toNat, numS t.nonce.toNat, numS t.fee.toNat, numS t.to_.toNat, t.data, numS t.round.toNat, numS t.turn.toNat] := by
      rw [TX.parts, hl, if_pos rfl]; rfl
    have ht : t.tparts = [bstr t.body, bstr t.tag, bstr t.by_] := by rw [TX.tparts, hl, if_pos rfl]; rfl
    rw [ht] at hA
    rw [rdTx, hA]
    simp only
    rw [if_pos ⟨hyt, hyb⟩, rdParts, hB]
    simp only
    rw [hp, if_neg (by simp)]
    unfold rdBody
    rw [rdNums_in (by decide) (by omega), rdNums_in (by decide) (by omega), rdNums_in (by decide) (by omega), rdNums_in (by decide) (by omega), rdNums_skip, rdNums_in (by decide) (by omega), rdNums_in (by decide) (by omega), rdNums]
    simp only
    have hg : [numS t.frm.toNat, numS t.nonce.toNat, numS t.fee.toNat, numS t.to_.toNat, t.data, numS t.round.toNat, numS t.turn.toNat].getD 4 ByteArray.empty = t.data := rfl
    have hu : setBy ((((((TX.start t.data true t.tag).upd 0 t.frm.toNat).upd (0 + 1) t.nonce.toNat).upd (0 + 1 + 1) t.fee.toNat).upd (0 + 1 + 1 + 1) t.to_.toNat).upd 5 t.round.toNat |>.upd (5 + 1) t.turn.toNat) t.by_ = t := by
      obtain ⟨a, b, c, d, e, f, g, h, i, j⟩ := t
      simp only at e0 e1 e2 e3 e5 e6 hl
      simp only [TX.start, TX.upd, setBy, e0, e1, e2, e3, e5, e6, hl]
    rw [hg, bstr_toList]
    split
    · refine (congrArg rdEnd (show _ = t from hu)).trans ?_
      rw [rdEnd, if_pos hc]
    · rename_i h
      exact absurd (show _ = true from rfl) h
theorem tx_back {s : ByteArray} {t : TX} (h : rdTx s = .ok t) : t.wf ∧ t.chk = 0 ∧ s = bstr t.text := by
  unfold rdTx at h
  split at h
  · simp at h
  · rename_i x y hl
    split at h
    · rename_i hy
      have hs := rdAll_back hl
      unfold rdParts at h
      split at h
      · simp at h
      · rename_i b hb
        have hx := rdAll_back hb
        have hbs := rdAll_sizes hb
        rw [show (if (none : Option ByteArray).isSome = true then 7 else 5) = 5 from rfl] at h
        by_cases hbl : b.length ≠ 5
        · rw [if_pos hbl] at h
          simp at h
        · rw [if_neg hbl] at h
          have hbl : b.length = 5 := Decidable.not_not.1 hbl
          match b, hbl with
          | [b0, b1, b2, b3, d], _ =>
            unfold rdBody at h
            split at h
            · simp at h
            · rename_i u hu
              obtain ⟨n0, h0, hu⟩ := rdNums_ok (by decide) hu
              obtain ⟨n1, h1, hu⟩ := rdNums_ok (by decide) hu
              obtain ⟨n2, h2, hu⟩ := rdNums_ok (by decide) hu
              obtain ⟨n3, h3, hu⟩ := rdNums_ok (by decide) hu
              rw [show 0 + 1 + 1 + 1 + 1 = 4 from rfl, rdNums_skip, rdNums] at hu
              injection hu with hu
              have hlane : u.lane = false := by rw [← hu]; rfl
              rw [hlane, if_neg (by decide)] at h
              unfold rdEnd at h
              split at h
              · rename_i hc
                injection h with h
                subst h
                have hst : (TX.start d false y.data.toList).wf := TX.start_wf (hbs d (by simp)) hy
                have hw : u.wf := by
                  rw [← hu]
                  exact TX.upd_wf (TX.upd_wf (TX.upd_wf (TX.upd_wf hst _ _ (rdNum_le h0)) _ _ (rdNum_le h1)) _ _ (rdNum_le h2)) _ _ (rdNum_le h3)
                refine ⟨hw, hc, ?_⟩
                have hp : u.parts = [b0, b1, b2, b3, d] := by
                  rw [rdNum_back h0, rdNum_back h1, rdNum_back h2, rdNum_back h3, ← hu]
                  rfl
                have hbd : bstr u.body = x := by rw [TX.body, hp, ← hx]
                have htg : bstr u.tag = y := by rw [← hu]; exact bstr_of y
                rw [hs, TX.text, TX.tparts, hlane, if_neg (by decide), List.append_nil, hbd, htg]
              · simp at h
    · simp at h
  · rename_i x y z hl
    split at h
    · rename_i hyz
      obtain ⟨hy, hz⟩ := hyz
      have hs := rdAll_back hl
      unfold rdParts at h
      split at h
      · simp at h
      · rename_i b hb
        have hx := rdAll_back hb
        have hbs := rdAll_sizes hb
        rw [show (if (some z : Option ByteArray).isSome = true then 7 else 5) = 7 from rfl] at h
        by_cases hbl : b.length ≠ 7
        · rw [if_pos hbl] at h
          simp at h
        · rw [if_neg hbl] at h
          have hbl : b.length = 7 := Decidable.not_not.1 hbl
          match b, hbl with
          | [b0, b1, b2, b3, d, b5, b6], _ =>
            unfold rdBody at h
            split at h
            · simp at h
            · rename_i u hu
              obtain ⟨n0, h0, hu⟩ := rdNums_ok (by decide) hu
              obtain ⟨n1, h1, hu⟩ := rdNums_ok (by decide) hu
              obtain ⟨n2, h2, hu⟩ := rdNums_ok (by decide) hu
              obtain ⟨n3, h3, hu⟩ := rdNums_ok (by decide) hu
              rw [show 0 + 1 + 1 + 1 + 1 = 4 from rfl, rdNums_skip] at hu
              obtain ⟨n5, h5, hu⟩ := rdNums_ok (by decide) hu
              obtain ⟨n6, h6, hu⟩ := rdNums_ok (by decide) hu
              rw [rdNums] at hu
              injection hu with hu
              have hlane : u.lane = true := by rw [← hu]; rfl
              rw [if_pos hlane] at h
              unfold rdEnd at h
              split at h
              · rename_i hc
                injection h with h
                subst h
                have hst : (TX.start d true y.data.toList).wf := TX.start_wf (hbs d (by simp)) hy
                have hw : u.wf := by
                  rw [← hu]
                  exact TX.upd_wf (TX.upd_wf (TX.upd_wf (TX.upd_wf (TX.upd_wf (TX.upd_wf hst _ _ (rdNum_le h0)) _ _ (rdNum_le h1)) _ _ (rdNum_le h2)) _ _ (rdNum_le h3)) _ _ (rdNum_le h5)) _ _ (rdNum_le h6)
                refine ⟨⟨hw.frm, hw.nonce, hw.fee, hw.to_, hw.data, hw.round, hw.turn, hz, hw.tag⟩, hc, ?_⟩
                have hp : (setBy u z.data.toList).parts = [b0, b1, b2, b3, d, b5, b6] := by
                  rw [rdNum_back h0, rdNum_back h1, rdNum_back h2, rdNum_back h3, rdNum_back h5, rdNum_back h6, ← hu]
                  rfl
                have hbd : bstr (setBy u z.data.toList).body = x := by rw [TX.body, hp, ← hx]
                have htg : bstr (setBy u z.data.toList).tag = y := by rw [← hu]; exact bstr_of y
                have hbz : bstr (setBy u z.data.toList).by_ = z := bstr_of z
                show s = bstr (setBy u z.data.toList).text
                rw [hs, TX.text, TX.tparts, hbd, htg, hbz, if_pos (show (setBy u z.data.toList).lane = true from hlane)]
                rfl
              · simp at h
    · simp at h
  · simp at h
theorem TX.chk_err (t : TX) (h : t.chk ≠ 0) : (t.chk != 0) = true := by simpa using h
theorem rdNum_err {s : ByteArray} {e : Int} (h : rdNum s = .error e) : e = 5 ∨ e = 6 := by
  unfold rdNum at h
  split at h
  · rename_i hn
    simp at h
    subst h
    exact rdN_err hn
  · split at h
    · simp at h
    · simp at h
      omega
theorem rdNums_err : ∀ (xs : List ByteArray) (k : Nat) (t : TX) (e : Int), rdNums k xs t = .error e → e = 5 ∨ e = 6
  | [], k, t, e, h => by simp [rdNums] at h
  | x :: xs, k, t, e, h => by
    rw [rdNums] at h
    split at h
    · exact rdNums_err xs _ _ _ h
    · split at h
      · rename_i hx
        simp at h
        subst h
        exact rdNum_err hx
      · exact rdNums_err xs _ _ _ h
theorem rdEnd_err {t : TX} {e : Int} (h : rdEnd t = .error e) : (e != 0) = true := by
  unfold rdEnd at h
  split at h
  · simp at h
  · rename_i hc
    injection h with h
    subst h
    simpa using hc
theorem rdParts_err {x y : ByteArray} {z : Option ByteArray} {e : Int} (h : rdParts x y z = .error e) : (e != 0) = true := by
  unfold rdParts at h
  split at h
  · rename_i hx
    injection h with h
    subst h
    exact rdAll_err hx
  · rename_i b hb
    by_cases hq : b.length ≠ (if z.isSome = true then 7 else 5)
    · rw [if_pos hq] at h
      injection h with h
      subst h
      rfl
    · rw [if_neg hq] at h
      unfold rdBody at h
      split at h
      · rename_i hn
        injection h with h
        subst h
        exact ne0_of (rdNums_err _ _ _ _ hn)
      · exact rdEnd_err h
theorem rdTx_err {s : ByteArray} {e : Int} (h : rdTx s = .error e) : (e != 0) = true := by
  unfold rdTx at h
  split at h
  · rename_i hx
    injection h with h
    subst h
    exact rdAll_err hx
  · split at h
    · exact rdParts_err h
    · injection h with h
      subst h
      rfl
  · split at h
    · exact rdParts_err h
    · injection h with h
      subst h
      rfl
  · injection h with h
    subst h
    rfl
open Go.RowKit
set_option maxHeartbeats 1000000
set_option maxRecDepth 4000
instance : DecidableEq TX := fun a b => by
  cases a; cases b
  rw [TX.mk.injEq]
  infer_instance
theorem part_str (cs : List Value) (i : Nat) (v : Value) (hv : cs[i]? = some v) (w : World) : (part 9 cs.toArray i).run Tryd.prog w = .ok v w := by
  simp [part, isAgg, run_underlying Tryd.underlying9, hv]
theorem part_bool (cs : List Value) (i : Nat) (v : Value) (hv : cs[i]? = some v) (w : World) : (part 4 cs.toArray i).run Tryd.prog w = .ok v w := by
  simp [part, isAgg, run_underlying Tryd.underlying4, hv]
theorem bytes_beq (a b : ByteArray) : (a.toList == b.toList) = decide (a = b) := by
  by_cases h : a = b
  · subst h; simp
  · rw [decide_eq_false h, beq_eq_false_iff_ne]
    intro e
    rw [ByteArray.toList_eq, ByteArray.toList_eq] at e
    exact h (ByteArray.ext (Array.ext' e))
theorem by_part {t : TX} (h : t.wf) : (t.cells.drop 8).take 32 = u8s t.by_ := by
  have h2 : (u8s t.by_).length = 32 := by rw [u8s_length]; exact h.by_
  simp [TX.cells, h2]
theorem tag_part {t : TX} (h : t.wf) : (t.cells.drop 40).take 32 = u8s t.tag := by
  have h2 : (u8s t.by_).length = 32 := by rw [u8s_length]; exact h.by_
  have h3 : (u8s t.tag).length = 32 := by rw [u8s_length]; exact h.tag
  simp only [TX.cells]
  rw [List.drop_append, List.drop_eq_nil_of_le (by simp), List.nil_append, List.drop_append, List.drop_eq_nil_of_le (by simp [h2]), List.nil_append, List.take_of_length_le]
  · simp [h2]
  · simp [h2, h3]
theorem tx_eq {t u : TX} (ht : t.wf) (hu : u.wf) (w : World) : (Op.equalIn 10000 25 (.agg t.cells.toArray) (.agg u.cells.toArray)).run Tryd.prog w = .ok (decide (t = u)) w := by
  rw [run_equalIn_struct w 9999 _ _ _ (by simp only [Program.fieldsOf, Tryd.underlying25]) (by kernel_rfl)]
  simp only [Program.fieldsOf, Tryd.underlying25, Op.eqFields]
  rw [if_pos (by decide), if_pos (by decide), if_pos (by decide), if_pos (by decide), if_pos (by decide), if_pos (by decide), if_pos (by decide), if_pos (by decide), if_pos (by decide), if_pos (by decide)]
  have ptfrm := part_int Tryd.underlying3 t.cells 0 (.int .i64 t.frm) rfl
  have ptnonce := part_int Tryd.underlying3 t.cells 1 (.int .i64 t.nonce) rfl
  have ptfee := part_int Tryd.underlying3 t.cells 2 (.int .i64 t.fee) rfl
  have ptto := part_int Tryd.underlying3 t.cells 3 (.int .i64 t.to_) rfl
  have ptdata := part_str t.cells 4 (.string t.data) rfl
  have ptlane := part_bool t.cells 5 (.bool t.lane) rfl
  have ptround := part_int Tryd.underlying3 t.cells 6 (.int .i64 t.round) rfl
  have ptturn := part_int Tryd.underlying3 t.cells 7 (.int .i64 t.turn) rfl
  have ptby := part_hash t.cells 8 t.by_ (by_part ht)
  have pttag := part_hash t.cells 40 t.tag (tag_part ht)
  have pufrm := part_int Tryd.underlying3 u.cells 0 (.int .i64 u.frm) rfl
  have punonce := part_int Tryd.underlying3 u.cells 1 (.int .i64 u.nonce) rfl
  have pufee := part_int Tryd.underlying3 u.cells 2 (.int .i64 u.fee) rfl
  have puto := part_int Tryd.underlying3 u.cells 3 (.int .i64 u.to_) rfl
  have pudata := part_str u.cells 4 (.string u.data) rfl
  have pulane := part_bool u.cells 5 (.bool u.lane) rfl
  have puround := part_int Tryd.underlying3 u.cells 6 (.int .i64 u.round) rfl
  have puturn := part_int Tryd.underlying3 u.cells 7 (.int .i64 u.turn) rfl
  have puby := part_hash u.cells 8 u.by_ (by_part hu)
  have putag := part_hash u.cells 40 u.tag (tag_part hu)
  have e3 := fun w => eq_hash2 ht.by_ hu.by_ w
  have e4 := fun w => eq_hash2 ht.tag hu.tag w
  have i1 : ∀ (a b : Int) (w : World), (Op.equalIn 9999 3 (.int .i64 a) (.int .i64 b)).run Tryd.prog w = .ok (a == b) w := fun a b w => run_equalIn_int w 9998 _ _ _ a b Tryd.underlying3
  have i2 : ∀ (a b : Bool) (w : World), (Op.equalIn 9999 4 (.bool a) (.bool b)).run Tryd.prog w = .ok (a == b) w := fun a b w => run_equalIn_bool' w 9998 _ a b Tryd.underlying4
  have i3 : ∀ (a b : ByteArray) (w : World), (Op.equalIn 9999 9 (.string a) (.string b)).run Tryd.prog w = .ok (decide (a = b)) w := fun a b w => by rw [run_equalIn_string w 9998 _ a b Tryd.underlying9, bytes_beq]
  simp only [Sem.run_bind, Sem.run_ite, Sem.run_pure, Result.andThen_ok, e3, e4, i1, i2, i3, ptfrm, ptnonce, ptfee, ptto, ptdata, ptlane, ptround, ptturn, ptby, pttag, pufrm, punonce, pufee, puto, pudata, pulane, puround, puturn, puby, putag]
  by_cases hfrm : t.frm = u.frm
  case neg => rw [decide_eq_false (fun h : t = u => hfrm (congrArg TX.frm h))]; simp [hfrm]
  case pos =>
    by_cases hnonce : t.nonce = u.nonce
    case neg => rw [decide_eq_false (fun h : t = u => hnonce (congrArg TX.nonce h))]; simp [hnonce]
    case pos =>
      by_cases hfee : t.fee = u.fee
      case neg => rw [decide_eq_false (fun h : t = u => hfee (congrArg TX.fee h))]; simp [hfee]
      case pos =>
        by_cases hto_ : t.to_ = u.to_
        case neg => rw [decide_eq_false (fun h : t = u => hto_ (congrArg TX.to_ h))]; simp [hto_]
        case pos =>
          by_cases hdata : t.data = u.data
          case neg => rw [decide_eq_false (fun h : t = u => hdata (congrArg TX.data h))]; simp [hdata]
          case pos =>
            by_cases hlane : t.lane = u.lane
            case neg => rw [decide_eq_false (fun h : t = u => hlane (congrArg TX.lane h))]; simp [hlane]
            case pos =>
              by_cases hround : t.round = u.round
              case neg => rw [decide_eq_false (fun h : t = u => hround (congrArg TX.round h))]; simp [hround]
              case pos =>
                by_cases hturn : t.turn = u.turn
                case neg => rw [decide_eq_false (fun h : t = u => hturn (congrArg TX.turn h))]; simp [hturn]
                case pos =>
                  by_cases hby_ : t.by_ = u.by_
                  case neg => rw [decide_eq_false (fun h : t = u => hby_ (congrArg TX.by_ h))]; simp [hby_]
                  case pos =>
                    by_cases htag : t.tag = u.tag
                    case neg => rw [decide_eq_false (fun h : t = u => htag (congrArg TX.tag h))]; simp [htag]
                    case pos =>
                      have h : t = u := by
                        cases t; cases u; simp_all
                      rw [decide_eq_true h]
                      simp [h]
open Go.RowKit
set_option maxHeartbeats 1000000
set_option maxRecDepth 4000
def TX.laneNow (t : TX) (who : Int) : List UInt8 := tagOf who.toNat 2 t.body
def TX.handChk (t : TX) (who : Int) : Int := if t.chk = 0 then if 0 ≤ who ∧ who < 64 then if t.lane = true then 0 else 2 else 20 else t.chk
def TX.handRes (t : TX) (who : Int) : TX := if t.handChk who = 0 then setBy t (t.laneNow who) else TX.zero
theorem lby_wf {t : TX} (h : t.wf) {l : List UInt8} (hl : l.length = 32) : (setBy t l).wf := ⟨h.frm, h.nonce, h.fee, h.to_, h.data, h.round, h.turn, hl, h.tag⟩
theorem lby_cells {t : TX} (h : t.wf) {l : List UInt8} (hl : l.length = 32) : splice t.cells 8 (u8s l) = (setBy t l).cells := by
  have h1 : (u8s l).length = 32 := by rw [u8s_length]; exact hl
  have h2 : (u8s t.by_).length = 32 := by rw [u8s_length]; exact h.by_
  have h3 : (u8s t.tag).length = 32 := by rw [u8s_length]; exact h.tag
  unfold splice
  rw [h1]
  simp [TX.cells, setBy, h2]
theorem lby_fits {t : TX} (h : t.wf) {l : List UInt8} (hl : l.length = 32) : 8 + (u8s l).length ≤ t.cells.length := by
  rw [TX.cells_length t h.by_ h.tag, u8s_length]
  omega
theorem hand_any (t : TX) (who : Int) (w : World) (ht : t.wf) (hR : RoundsAt w) :
    Calls Tryd.prog 25 #[.agg t.cells.toArray, .int .i64 who] w fun e w' => e = .returned (.tuple #[.agg (t.handRes who).cells.toArray, .int .i64 (t.handChk who)]) ∧ Below w.heap.size w w' := by
  have HT := Lib.hid ht
  have HR := Lib.hid hR
  have hA0 := TxAt.start w t
  have hA01 : TxAt w ((w.alloc (.cells t.cells.toArray 25)).alloc (.cells Tryd.zeroCells25 25)) t := hA0.below (bw_alloc (Below.refl _ _) _) (by simp) (bw_alloc hA0.1 _)
  have hg0 := hA01.2
  have hz0 : ((w.alloc (.cells t.cells.toArray 25)).alloc (.cells Tryd.zeroCells25 25)).heap[w.heap.size + 1]? = some (.cells zlTx.toArray 25 (0, 0)) := heap_alloc2_new w _ _
  have HA0 := Lib.hid hA01
  have HZ0 := Lib.hid hz0
  clear hA0 hA01 ht hR
  obtain ⟨k, hk⟩ : ∃ k, k = t.chk := ⟨_, rfl⟩
  obtain ⟨r, hr⟩ : ∃ r, r = t.handRes who := ⟨_, rfl⟩
  obtain ⟨q, hq⟩ : ∃ q, q = t.handChk who := ⟨_, rfl⟩
  obtain ⟨b, hb⟩ : ∃ b, b = t.bodyS := ⟨_, rfl⟩
  have HK := Lib.hid hk
  have HRS := Lib.hid hr
  have HQ := Lib.hid hq
  have HBS := Lib.hid hb
  rw [← hr, ← hq]
  clear hb hr hz0 hq
  have hlt : w.heap.size < ((w.alloc (.cells t.cells.toArray 25)).alloc (.cells Tryd.zeroCells25 25)).heap.size := by simp; omega
  by_cases hk0 : k = 0
  · subst hk0
    have hck : t.chk = 0 := hk.symm
    have HCK := Lib.hid hck
    clear hk hck
    by_cases hwho : 0 ≤ who ∧ who < 64
    · obtain ⟨hw1, hw2⟩ := hwho
      have hg1 : decide (who < 0) = false := decide_eq_false (by omega)
      have hg2 : decide (64 ≤ who) = false := decide_eq_false (by omega)
      cases hln : t.lane with
      | true =>
        have hq2 : Hid (q = 0) := show _ = _ by rw [HQ.out, TX.handChk, if_pos HCK.out, if_pos ⟨hw1, hw2⟩, if_pos hln]
        have hr2 : Hid (r = setBy t (t.laneNow who)) := show _ = _ by rw [HRS.out, TX.handRes, ← HQ.out, if_pos hq2.out]
        have HLN := Lib.hid hln
        have h5 : t.cells[5]? = some (.bool true) := by rw [← HLN.out]; rfl
        clear hln
        go_enter Tryd.func25, Tryd.ntmps25
        go_wp2_with (with_reducible refine wpList_load_rows rfl 25 (.tmp 2) rfl w.heap.size 0 t.cells t.cells 25 (0, 0) _ rfl hg0 id_at Tryd.underlying25 rfl (tx_info HT.out) ?_)
        refine (body_any t _ HT.out).mono ?_
        rintro e w1 ⟨rfl, hb1⟩
        rw [← HK.out, ← HBS.out]
        have hA1 := HA0.out.below hb1 hlt (bw_call HA0.out.1 hb1)
        have hc0 := hA1.cell 5 _ h5
        have HA1 := Lib.hid hA1
        have HZ1 := Lib.hid ((hb1.block _ (block_lt HZ0.out)).trans HZ0.out)
        clear hA1 hb1 hg0
        go_wp2_with fail
        have hbo := bodyS_ok HCK.out
        refine (tag_ok who 2 b _ hw1 (by omega) (by decide) (by decide) (by rw [HBS.out]; exact hbo.1) (HR.out.below HA1.out.1 HR.out.1)).mono ?_
        rintro e w5 ⟨rfl, hb5⟩
        obtain ⟨g, hg⟩ : ∃ g, g = tagOf who.toNat (2 : Int).toNat b.data.toList := ⟨_, rfl⟩
        rw [← hg]
        have HGL : Hid (g.length = 32) := show _ = _ by rw [hg]; exact tagOf_length _ _ _
        have HTG : Hid (r = setBy t g) := show _ = _ by rw [hr2.out, hg, HBS.out, hbo.2]; rfl
        have hA5 := HA1.out.below hb5 (block_lt HA1.out.2) (bw_call HA1.out.1 hb5)
        have hg5 := hA5.2
        have HZ5 := Lib.hid ((hb5.block _ (block_lt HZ1.out)).trans HZ1.out)
        have HA5 := Lib.hid hA5
        have HWF := Lib.hid (lby_wf HT.out HGL.out)
        have HLEN : Hid ((setBy t g).cells.length = zlTx.length) := show _ = _ from (setBy t g).cells_length HWF.out.by_ HWF.out.tag
        clear hb5 hbo hg hA5
        go_wp2_with (first
          | ((with_reducible refine wpList_store_rows rfl 23 (.tmp 37) (.tmp 35) rfl w.heap.size 8 (u8s g) t.cells 25 rfl rfl hg5 (lby_fits HT.out HGL.out) (hash_info HGL.out) (u8s_one _) ?_); intro w6 hU6; have hT6 := hU6.out.at_; rw [lby_cells HT.out HGL.out] at hT6; have hz6 := (hU6.out.other _ (by omega)).trans HZ5.out; have HB6 := Lib.hid (hU6.out.below HA5.out.1 (Nat.le_refl _)); clear hg5)
          | (with_reducible refine wpList_load_rows rfl 25 (.tmp 2) rfl w.heap.size 0 (setBy t g).cells (setBy t g).cells 25 (0, 0) _ rfl hT6 id_at Tryd.underlying25 rfl (tx_info HWF.out) ?_)
          | ((with_reducible refine wpList_store_whole rfl 25 (.tmp 4) (.tmp 38) rfl (w.heap.size + 1) (setBy t g).cells zlTx 25 rfl rfl hz6 HLEN.out (tx_info HWF.out) (start_one _) ?_); intro w7 hU))
        rw [HTG.out, hq2.out]
        exact post_cell_tmp 4 5 25 rfl (w.heap.size + 1) _ (setBy t g).cells _ _ hU.out.at_ Tryd.underlying25 rfl (tx_info HWF.out) (.int .i64 0) rfl rfl rfl ⟨rfl, hU.out.below HB6.out (Nat.le_succ _)⟩
      | false =>
        have hq2 : Hid (q = 2) := show _ = _ by rw [HQ.out, TX.handChk, if_pos HCK.out, if_pos ⟨hw1, hw2⟩, if_neg (by rw [hln]; decide)]
        have hr2 : Hid (r = TX.zero) := show _ = _ by rw [HRS.out, TX.handRes, ← HQ.out, if_neg (by rw [hq2.out]; decide)]
        have HLN := Lib.hid hln
        have h5 : t.cells[5]? = some (.bool false) := by rw [← HLN.out]; rfl
        clear hln
        go_enter Tryd.func25, Tryd.ntmps25
        go_wp2_with (with_reducible refine wpList_load_rows rfl 25 (.tmp 2) rfl w.heap.size 0 t.cells t.cells 25 (0, 0) _ rfl hg0 id_at Tryd.underlying25 rfl (tx_info HT.out) ?_)
        refine (body_any t _ HT.out).mono ?_
        rintro e w1 ⟨rfl, hb1⟩
        rw [← HK.out, ← HBS.out]
        have hA1 := HA0.out.below hb1 hlt (bw_call HA0.out.1 hb1)
        have hc0 := hA1.cell 5 _ h5
        have HA1 := Lib.hid hA1
        have hz1 := (hb1.block _ (block_lt HZ0.out)).trans HZ0.out
        clear hA1 hb1 hg0
        go_wp2_with (first
          | (with_reducible refine wpList_build rfl 25 [] rfl [] (.agg zlTx.toArray) rfl (tx_build0 _) ?_)
          | ((with_reducible refine wpList_store_whole rfl 25 (.tmp 4) (.tmp 30) rfl (w.heap.size + 1) zlTx zlTx 25 rfl rfl hz1 rfl zlTx_info zlTx_one ?_); intro w2 hU))
        rw [hr2.out, hq2.out]
        exact post_cell_tmp 4 5 25 rfl (w.heap.size + 1) _ zlTx _ _ hU.out.at_ Tryd.underlying25 rfl zlTx_info (.int .i64 2) rfl rfl rfl ⟨rfl, hU.out.below HA1.out.1 (Nat.le_succ _)⟩
    · have hq2 : Hid (q = 20) := show _ = _ by rw [HQ.out, TX.handChk, if_pos HCK.out, if_neg hwho]
      have hr2 : Hid (r = TX.zero) := show _ = _ by rw [HRS.out, TX.handRes, ← HQ.out, if_neg (by rw [hq2.out]; decide)]
      go_enter Tryd.func25, Tryd.ntmps25
      go_wp2_with (with_reducible refine wpList_load_rows rfl 25 (.tmp 2) rfl w.heap.size 0 t.cells t.cells 25 (0, 0) _ rfl hg0 id_at Tryd.underlying25 rfl (tx_info HT.out) ?_)
      refine (body_any t _ HT.out).mono ?_
      rintro e w1 ⟨rfl, hb1⟩
      rw [← HK.out, ← HBS.out]
      have HA1 := Lib.hid (bw_call HA0.out.1 hb1)
      have hz1 := (hb1.block _ (block_lt HZ0.out)).trans HZ0.out
      clear hb1 hg0
      go_wp2_with (first
        | (with_reducible refine wpList_build rfl 25 [] rfl [] (.agg zlTx.toArray) rfl (tx_build0 _) ?_)
        | ((with_reducible refine wpList_store_whole rfl 25 (.tmp 4) (.tmp 25) rfl (w.heap.size + 1) zlTx zlTx 25 rfl rfl hz1 rfl zlTx_info zlTx_one ?_); intro w2 hU))
      all_goals
        rw [hr2.out, hq2.out]
        exact post_cell_tmp 4 5 25 rfl (w.heap.size + 1) _ zlTx _ _ hU.out.at_ Tryd.underlying25 rfl zlTx_info (.int .i64 20) rfl rfl rfl ⟨rfl, hU.out.below HA1.out (Nat.le_succ _)⟩
  · have hkb : (k != 0) = true := by simpa using hk0
    have hq2 : Hid (q = k) := show _ = _ by rw [HQ.out, TX.handChk, if_neg (by rw [← HK.out]; exact hk0), HK.out]
    have hr2 : Hid (r = TX.zero) := show _ = _ by rw [HRS.out, TX.handRes, ← HQ.out, if_neg (by rw [hq2.out]; exact hk0)]
    clear hk
    go_enter Tryd.func25, Tryd.ntmps25
    go_wp2_with (with_reducible refine wpList_load_rows rfl 25 (.tmp 2) rfl w.heap.size 0 t.cells t.cells 25 (0, 0) _ rfl hg0 id_at Tryd.underlying25 rfl (tx_info HT.out) ?_)
    refine (body_any t _ HT.out).mono ?_
    rintro e w1 ⟨rfl, hb1⟩
    rw [← HK.out]
    have hz1 := (hb1.block _ (block_lt HZ0.out)).trans HZ0.out
    have HB1 := Lib.hid (bw_call HA0.out.1 hb1)
    clear hb1
    go_wp2_with (first
      | (with_reducible refine wpList_build rfl 25 [] rfl [] (.agg zlTx.toArray) rfl (tx_build0 _) ?_)
      | ((with_reducible refine wpList_store_whole rfl 25 (.tmp 4) (.tmp 16) rfl (w.heap.size + 1) zlTx zlTx 25 rfl rfl hz1 rfl zlTx_info zlTx_one ?_); intro w2 hU))
    rw [hr2.out, hq2.out]
    exact post_cell_tmp 4 5 25 rfl (w.heap.size + 1) _ zlTx _ _ hU.out.at_ Tryd.underlying25 rfl zlTx_info (.int .i64 k) rfl rfl rfl ⟨rfl, hU.out.below HB1.out (Nat.le_succ _)⟩
def TX.nameRes (t : TX) : List UInt8 := if t.chk = 0 then sha t.text else z32
end Go.Proofs.YtckfdmkjeocadaaDoor
