/- The reference's Key, Tag, Check: what the calls do. -/
import Derived.Test.YtbeooeihedhabaaDoorRSum
namespace Go.Proofs.YtbeooeihedhabaaDoor
open Go.RowKit
set_option maxHeartbeats 1000000
set_option maxRecDepth 4000
theorem key_zero : keyB ++ numEnc 0 = [107, 101, 121, 0] := by rw [numEnc, numB_zero]; rfl
theorem key_pos {n : Nat} (h0 : 0 < n) (h : n < 256) : keyB ++ numEnc n = [107, 101, 121, 1, UInt8.ofNat n] := by
  rw [numEnc, numB_pos h0, show n / 256 = 0 by omega, numB_zero, show n % 256 = n by omega]
  rfl
theorem conv_byte_at {W : World} {n : Nat} (d : Int) (h0 : 0 ≤ d) (h1 : d ≤ 255) (hn : W.heap.size = n) :
    (convert 48 9 (.slice (some ⟨n, 0, none⟩) 1 1)).run Tryd.prog (W.alloc (.cells #[.int .u8 d] 5)) = .ok (.string (bstr [UInt8.ofNat d.toNat])) (W.alloc (.cells #[.int .u8 d] 5)) := by
  subst hn
  exact conv_byte d h0 h1 W
theorem rkey_ok (who : Int) (w : World) (h0 : 0 ≤ who) (h1 : who ≤ 64) :
    Calls Tryd.prog 55 #[.int .i64 who] w fun e w' => e = .returned (.tuple #[.agg (u8s (keyOf who.toNat)).toArray, .int .i64 0]) ∧ Below w.heap.size w w' := by
  have hcv := conv_byte_at (W := w.alloc (.cells zl32.toArray 51)) (n := w.heap.size + 1) who (by omega) (by omega) (by simp)
  have hd1 : who ≤ 255 := by omega
  obtain ⟨r, hr⟩ : ∃ r, r = keyOf who.toNat := ⟨_, rfl⟩
  have HRL : Hid (r.length = 32) := show _ = _ by rw [hr]; exact keyOf_length _
  rw [← hr]
  have HRR := Lib.hid hr
  clear hr
  by_cases hw : who = 0
  · subst hw
    go_enter Tryd.func55, Tryd.ntmps55
    go_wp2_with fail
    refine (rsum_any _ _ (by decide)).mono ?_
    rintro e w1 ⟨rfl, hb⟩
    have hr2 : sha (⟨#[107, 101, 121, 0]⟩ : ByteArray).data.toList = r := by rw [HRR.out, keyOf]; exact congrArg sha key_zero.symm
    rw [hr2]
    have hz : w1.heap[w.heap.size]? = some (.cells (u8s z32).toArray 51 (0, 0)) := (hb.block w.heap.size (by simp)).trans (heap_alloc_new w _)
    have HB := Lib.hid (bw_call (bw_alloc (Below.refl _ w) _) hb)
    clear hb hr2 hcv
    go_wp2_with ((with_reducible refine wpList_store_whole rfl 51 (.tmp 2) (.tmp 13) rfl w.heap.size (u8s r) (u8s z32) 51 rfl rfl hz (by rw [u8s_length, u8s_length, HRL.out, z32_length]) (hash_info HRL.out) (u8s_one _) ?_); intro w3 hU)
    exact post_cell_tmp 2 3 51 rfl w.heap.size _ (u8s r) _ _ hU.out.at_ Tryd.underlying51 rfl (hash_info HRL.out) (.int .i64 0) rfl rfl rfl ⟨rfl, hU.out.below HB.out (Nat.le_refl _)⟩
  · have hsz : (⟨#[107, 101, 121, 1]⟩ : ByteArray).size + (bstr [UInt8.ofNat who.toNat]).size ≤ 9223372036854775807 := by rw [bstr_size]; show 4 + 1 ≤ _; omega
    go_enter Tryd.func55, Tryd.ntmps55
    go_wp2_with fail
    refine (rsum_any _ _ ?_).mono ?_
    · rw [ByteArray.size_append, bstr_size]; show 4 + 1 ≤ _; omega
    rintro e w1 ⟨rfl, hb⟩
    have hr2 : sha ((⟨#[107, 101, 121, 1]⟩ ++ bstr [UInt8.ofNat who.toNat] : ByteArray)).data.toList = r := by
      rw [HRR.out, keyOf, key_pos (by omega) (by omega), show (⟨#[107, 101, 121, 1]⟩ : ByteArray) = bstr [107, 101, 121, 1] from rfl, bstr_append, bstr_toList]
      rfl
    rw [hr2]
    have hz : w1.heap[w.heap.size]? = some (.cells (u8s z32).toArray 51 (0, 0)) := (hb.block w.heap.size (by simp; omega)).trans ((Below.heap_alloc _ _ _ (by simp)).trans (heap_alloc_new w _))
    have HB := Lib.hid (bw_call (bw_alloc (bw_alloc (Below.refl _ w) _) _) hb)
    clear hb hr2 hcv hsz
    go_wp2_with ((with_reducible refine wpList_store_whole rfl 51 (.tmp 2) (.tmp 19) rfl w.heap.size (u8s r) (u8s z32) 51 rfl rfl hz (by rw [u8s_length, u8s_length, HRL.out, z32_length]) (hash_info HRL.out) (u8s_one _) ?_); intro w3 hU)
    exact post_cell_tmp 2 3 51 rfl w.heap.size _ (u8s r) _ _ hU.out.at_ Tryd.underlying51 rfl (hash_info HRL.out) (.int .i64 0) rfl rfl rfl ⟨rfl, hU.out.below HB.out (Nat.le_refl _)⟩
theorem conv_kept {W w' : World} {d : Int} {t : TypeId} {n : Nat} (hn : W.heap.size = n) (h0 : 0 ≤ d) (h1 : d ≤ 255) (hb : Below (W.alloc (.cells #[.int .u8 d] t)).heap.size (W.alloc (.cells #[.int .u8 d] t)) w') :
    (convert 48 9 (.slice (some ⟨n, 0, none⟩) 1 1)).run Tryd.prog w' = .ok (.string (bstr [UInt8.ofNat d.toNat])) w' := by
  subst hn
  refine conv_row [UInt8.ofNat d.toNat] Tryd.underlying48 Tryd.underlying5 Tryd.underlying9 rfl fun i hi => ?_
  obtain rfl : i = 0 := by omega
  rw [cell_of_row w' W.heap.size _ _ _ _ ((hb.block _ (by simp)).trans (heap_alloc_new W _))]
  simp [u8s]
  omega
theorem undrew {B : Nat} {W w' : World} (h : Below B W.drew w') : Below B W w' := ⟨h.os, h.tape, h.output, h.size, h.block⟩
theorem tag_list (k : List UInt8) (d : Int) (body : ByteArray) : (bstr k ++ bstr [UInt8.ofNat d.toNat] ++ body).data.toList = k ++ (UInt8.ofNat d.toNat :: body.data.toList) := by
  rw [bstr_append, cat_list]
  simp
/-- a row is loaded first -/
theorem rsum_ex (s : ByteArray) (w : World) (hs : s.size ≤ 140737488355200) :
    Calls Tryd.prog 56 #[.string s] w fun e w' => ∃ r, Hid (r = sha s.data.toList) ∧ Hid (r.length = 32) ∧ (Tryd.prog.info? 51).map (·.size) = some (u8s r).toArray.size ∧ (∀ v ∈ u8s r, v.oneCell' = true) ∧ e = .returned (.agg (u8s r).toArray) ∧ Below w.heap.size w w' :=
  (rsum_any s w hs).mono fun e w' ⟨h1, h2⟩ => ⟨_, rfl, sha_length _, by rw [List.size_toArray]; exact hash_info (sha_length _), u8s_one _, h1, h2⟩
/-- what Tag's memory holds: what comes out, the key -/
def TG (w : World) (b : Nat) (k : List UInt8) (W : World) : Prop := Below w.heap.size w W ∧ w.heap.size < b ∧ W.heap[b]? = some (.cells (u8s k).toArray 51 (0, 0)) ∧ ∃ cs : List Value, cs.length = 32 ∧ W.heap[w.heap.size]? = some (.cells cs.toArray 51 (0, 0))
theorem TG.call {w W W' : World} {b : Nat} {k : List UInt8} (h : TG w b k W) (hb : Below W.heap.size W W') : TG w b k W' := by
  obtain ⟨h1, h2, h3, cs, h4, h5⟩ := h
  exact ⟨bw_call h1 hb, h2, (hb.block _ (block_lt h3)).trans h3, cs, h4, (hb.block _ (block_lt h5)).trans h5⟩
theorem TG.alloc {w W : World} {b : Nat} {k : List UInt8} (h : TG w b k W) (o : Obj) : TG w b k (W.alloc o) := h.call (bw_alloc (Below.refl _ _) o)
theorem TG.drew {w W : World} {b : Nat} {k : List UInt8} (h : TG w b k W) : TG w b k W.drew := h.call (Below.refl _ _).drew
theorem TG.upd {w W : World} {b : Nat} {k : List UInt8} (h : TG w b k W) {vs : List Value} (hv : vs.length = 32) : Upd W (W.setCells w.heap.size 0 vs) w.heap.size (.cells vs.toArray 51 (0, 0)) := by
  obtain ⟨h1, h2, h3, cs, h4, h5⟩ := h
  have hU := upd_setCells (o := 0) (vs := vs) h5 (by omega)
  rw [splice_all _ _ (by omega)] at hU
  exact hU
theorem TG.store {w W : World} {b : Nat} {k : List UInt8} (h : TG w b k W) {vs : List Value} (hv : vs.length = 32) : TG w b k (W.setCells w.heap.size 0 vs) := by
  have hU := h.upd hv
  obtain ⟨h1, h2, h3, cs, h4, h5⟩ := h
  exact ⟨hU.below h1 (Nat.le_refl _), h2, (hU.other _ (by omega)).trans h3, vs, hv, hU.at_⟩
theorem TG.updU {w W W' : World} {b : Nat} {k r : List UInt8} (h : TG w b k W) (hU : Upd W W' w.heap.size (.cells (u8s r).toArray 51 (0, 0))) (hr : r.length = 32) : TG w b k W' := by
  obtain ⟨h1, h2, h3, cs, h4, h5⟩ := h
  exact ⟨hU.below h1 (Nat.le_refl _), h2, (hU.other _ (by omega)).trans h3, u8s r, (u8s_length r).trans hr, hU.at_⟩
theorem undrew2 {W w' : World} {o : Obj} (h : Below ((W.drew).alloc o).heap.size ((W.drew).alloc o) w') : Below (W.alloc o).heap.size (W.alloc o) w' := ⟨h.os, h.tape, h.output, h.size, h.block⟩
theorem TG.range {w W : World} {b : Nat} {k : List UInt8} (h : TG w b k W) : W.rangeAt b 0 (u8s k) := range_row h.2.2.1 id_at
theorem TG.there {w W : World} {b : Nat} {k r : List UInt8} (h : TG w b k W) (hr : r.length = 32) : W.there w.heap.size 0 (u8s r).toArray.size := by
  obtain ⟨h1, h2, h3, cs, h4, h5⟩ := h
  exact there_row h5 (by rw [List.size_toArray, u8s_length]; omega)
theorem rtag_ok (who dom : Int) (body : ByteArray) (w : World) (h0 : 0 ≤ who) (h1 : who ≤ 64) (h2 : 1 ≤ dom) (h3 : dom ≤ 4) (hb : body.size ≤ 70368744177664) :
    Calls Tryd.prog 25 #[.int .i64 who, .int .i64 dom, .string body] w fun e w' => e = .returned (.tuple #[.agg (u8s (tagOf who.toNat dom.toNat body.data.toList)).toArray, .int .i64 0]) ∧ Below w.heap.size w w' := by
  have hcv := fun W => conv_byte dom (by omega) (by omega) W
  have hd0 : 0 ≤ dom := by omega
  have hd1 : dom ≤ 255 := by omega
  have hg1 : decide (dom < 1) = false := decide_eq_false (by omega)
  have hg2 : decide (4 < dom) = false := decide_eq_false (by omega)
  go_enter Tryd.func25, Tryd.ntmps25
  go_wp2_with fail
  refine (rkey_ok who _ h0 h1).mono ?_
  rintro e w1 ⟨rfl, hb1⟩
  obtain ⟨k, hk⟩ : ∃ k, k = keyOf who.toNat := ⟨_, rfl⟩
  rw [← hk]
  have HKL : Hid (k.length = 32) := show _ = _ by rw [hk]; exact keyOf_length _
  have HK := Lib.hid hk
  have hz0 : w1.heap[w.heap.size]? = some (.cells (u8s z32).toArray 51 (0, 0)) := (hb1.block _ (by simp)).trans (heap_alloc_new w _)
  have HB1 := Lib.hid (bw_call (bw_alloc (Below.refl w.heap.size w) _) hb1)
  have hz1 : (w1.alloc (.cells zl32.toArray 51)).heap[w1.heap.size]? = some (.cells (u8s z32).toArray 51 (0, 0)) := by rw [zl32_eq]; exact heap_alloc_new _ _
  have hne : w.heap.size ≠ w1.heap.size := Nat.ne_of_lt (block_lt hz0)
  have hz00 := (Below.heap_alloc w1 (.cells zl32.toArray 51) _ (block_lt hz0)).trans hz0
  have hle := HB1.out.size
  clear hk hb1 hz0
  go_wp2_with ((with_reducible refine wpList_store_whole rfl 51 (.tmp 8) (.tmp 13) rfl w1.heap.size (u8s k) (u8s z32) 51 rfl rfl hz1 (by rw [u8s_length, u8s_length, HKL.out, z32_length]) (hash_info HKL.out) (u8s_one _) ?_); intro w2 hU; have hz2 := (hU.out.other _ hne).trans hz00; have hk2 := hU.out.at_; have HB2 := Lib.hid (hU.out.below (bw_alloc HB1.out _) hle); clear hU hz1 hz00)
  have hwr : IntKind.u8.wrap dom = dom := by rw [IntKind.wrap_u8]; omega
  have hsz1 : (bstr k).size + (bstr [UInt8.ofNat dom.toNat]).size ≤ 9223372036854775807 := by rw [bstr_size, HKL.out, bstr_size]; show 32 + 1 ≤ _; omega
  have hsz2 : (bstr k ++ bstr [UInt8.ofNat dom.toNat]).size + body.size ≤ 9223372036854775807 := by rw [ByteArray.size_append, bstr_size, HKL.out, bstr_size]; show 32 + 1 + _ ≤ _; omega
  have hsz3 : (bstr k).size + (bstr [UInt8.ofNat dom.toNat]).size + body.size ≤ 9223372036854775807 := by rw [ByteArray.size_append] at hsz2; exact hsz2
  have HSZ : Hid ((bstr k ++ bstr [UInt8.ofNat dom.toNat] ++ body).size ≤ 140737488355200) := show _ ≤ _ by rw [ByteArray.size_append, ByteArray.size_append, bstr_size, HKL.out, bstr_size]; show 32 + 1 + _ ≤ _; omega
  have HTL := Lib.hid (tag_list k dom body)
  have hu := Tryd.underlying51
  have hi1 : (Tryd.prog.info? 51).map (·.size) = some (u8s k).length := hash_info HKL.out
  have hT0 : TG w w1.heap.size k w2 := ⟨HB2.out, Nat.lt_of_le_of_ne hle hne, hk2, u8s z32, (u8s_length z32).trans z32_length, hz2⟩
  clear hk2 hz2 hle hne
  generalize w1.heap.size = b at *
  have hcvD := conv_kept (W := w2) (w' := (w2.alloc (.cells #[.int .u8 dom] 5)).drew) (n := w2.heap.size) rfl hd0 hd1 (Below.refl _ _).drew
  have KEEP : Hid (∀ W', TG w b k W' → (TG w b k W' ∧ W'.rangeAt b 0 (u8s k))) := show ∀ W', _ from fun W' h => ⟨h, h.range⟩
  refine wp_region_held_drew (S := fun W' => TG w b k W' ∧ W'.rangeAt b 0 (u8s k)) (by kernel_rfl) (KEEP.out _ hT0.drew) (fun hHeld => ?_)
  refine rg_row (i := 0) rfl (by kernel_rfl) (by kernel_rfl) (by kernel_rfl) (fun _ _ _ _ h => h) rfl (by rfl) 51 (.tmp 8) rfl b 0 (u8s k) rfl (fun W h => h.2) hu rfl hi1 (by assumption) ?_
  try simp only [Act.put, List.setIfInBounds_toArray, List.set_cons_zero, List.set_cons_succ]
  refine rg_gen (i := 2) (v := ?_) rfl (by kernel_rfl) (by kernel_rfl) (by kernel_rfl) (fun _ _ _ h => h) rfl (by rfl) ?_ (by assumption) ?_
  rotate_left
  · intro w hSw
    try dsimp only at hSw
    go_simp
    try with_reducible rfl
  try simp only [Act.put, List.setIfInBounds_toArray, List.set_cons_zero, List.set_cons_succ]
  refine rg_gen (i := 3) (v := ?_) rfl (by kernel_rfl) (by kernel_rfl) (by kernel_rfl) (fun _ _ _ h => h) rfl (by rfl) ?_ (by assumption) ?_
  rotate_left
  · intro w hSw
    try dsimp only at hSw
    go_simp
    try with_reducible rfl
  try simp only [Act.put, List.setIfInBounds_toArray, List.set_cons_zero, List.set_cons_succ]
  refine rg_gen (i := 7) (v := ?_) rfl (by kernel_rfl) (by kernel_rfl) (by kernel_rfl) (fun _ _ _ h => h) rfl (by rfl) ?_ (by assumption) ?_
  rotate_left
  · intro w hSw
    try dsimp only at hSw
    go_simp
    try with_reducible rfl
  try simp only [Act.put, List.setIfInBounds_toArray, List.set_cons_zero, List.set_cons_succ]
  refine wpAnyH_ready (rs := [1, 4]) (by kernel_rfl) (by simp) ?_
  refine AllReadyH.cons rfl (fun K hK => ?_) (AllReadyH.cons rfl (fun K hK => ?_) AllReadyH.nil)
  · go_simp
    go_at_call 26
    refine (rbytes_any k _ HKL.out).mono ?_
    rintro e wB ⟨rfl, hbwB⟩
    go_wp2_with fail
    refine hK.out _ _ (KEEP.out _ (hHeld.1.call hbwB)) (fun hH1 => ?_)
    clear hK K
    try simp only [Act.put, List.setIfInBounds_toArray, List.set_cons_zero, List.set_cons_succ]
    refine rg_one (i := 4) (by kernel_rfl) rfl (fun K hK => ?_)
    go_simp
    refine hK.out _ _ (KEEP.out _ (hH1.1.alloc _)) (fun hH2 => ?_)
    clear hK K
    try simp only [Act.put, List.setIfInBounds_toArray, List.set_cons_zero, List.set_cons_succ]
    refine rg_one (i := 5) (by kernel_rfl) rfl (fun K hK => ?_)
    refine rg_step (s := convert 48 9 (.slice (some ⟨wB.heap.size, 0, none⟩) 1 1)) (by rfl) rfl rfl (hcv wB) ?_
    refine hK.out _ _ hH2 (fun _ => ?_)
    clear hK K
    try simp only [Act.put, List.setIfInBounds_toArray, List.set_cons_zero, List.set_cons_succ]
    refine rg_gen (i := 6) (v := .string (bstr k ++ bstr [UInt8.ofNat dom.toNat])) rfl (by kernel_rfl) (by kernel_rfl) (by kernel_rfl) (fun _ _ _ h => h) rfl (by rfl) ?_ (by assumption) ?_
    · intro w hSw
      try dsimp only at hSw
      go_simp
      try simp only [hsz1, if_true, Result.andThen_ok]
    try simp only [Act.put, List.setIfInBounds_toArray, List.set_cons_zero, List.set_cons_succ]
    refine rg_gen (i := 8) (v := .string (bstr k ++ bstr [UInt8.ofNat dom.toNat] ++ body)) rfl (by kernel_rfl) (by kernel_rfl) (by kernel_rfl) (fun _ _ _ h => h) rfl (by rfl) ?_ (by assumption) ?_
    · intro w hSw
      try dsimp only at hSw
      go_simp
      try simp only [hsz2, if_true, Result.andThen_ok]
    try simp only [Act.put, List.setIfInBounds_toArray, List.set_cons_zero, List.set_cons_succ]
    refine rg_one (i := 9) (by kernel_rfl) rfl (fun K hK => ?_)
    go_simp
    go_at_call 56
    refine (rsum_ex _ _ HSZ.out).mono ?_
    rintro e wS ⟨r, hrr, hrl, hi2, h12, rfl, hbS⟩
    go_wp2_with fail
    have hTG : TG w b k wS := hH2.1.call hbS
    refine hK.out _ _ (KEEP.out _ hTG) (fun hHS => ?_)
    clear hK K
    try simp only [Act.put, List.setIfInBounds_toArray, List.set_cons_zero, List.set_cons_succ]
    obtain ⟨_, _, _, cs, hcl, hcs⟩ := hHS.1
    refine rg_one (i := 10) (by kernel_rfl) rfl (fun K hK => ?_)
    refine rg_store (by rfl) rfl 51 (.tmp 6) (.tmp 35) rfl w.heap.size (u8s r) cs 51 rfl rfl hcs (by rw [u8s_length, hrl.out, hcl]) (hash_info hrl.out) h12 (fun wU hU => ?_)
    have hTU := hTG.updU hU hrl.out
    refine hK.out _ _ (KEEP.out _ hTU) (fun hHU => ?_)
    clear hK K
    try simp only [Act.put, List.setIfInBounds_toArray, List.set_cons_zero, List.set_cons_succ]
    refine rg_gen (i := 11) (v := ?_) rfl (by kernel_rfl) (by kernel_rfl) (by kernel_rfl) (fun _ _ _ h => h) rfl (by rfl) ?_ (by assumption) ?_
    rotate_left
    · intro w hSw
      try dsimp only at hSw
      go_simp
      try with_reducible rfl
    try simp only [Act.put, List.setIfInBounds_toArray, List.set_cons_zero, List.set_cons_succ]
    refine wpAnyH_done (by kernel_rfl) ?_ _
    have hr2 : r = tagOf who.toNat dom.toNat body.data.toList := by rw [hrr.out, HTL.out, HK.out]; rfl
    have HF := Lib.hid hTU.1
    go_wp2_with fail
    exact post_cell_tmp 6 7 51 rfl w.heap.size _ (u8s r) _ _ hU.at_ Tryd.underlying51 rfl (hash_info hrl.out) (.int .i64 0) rfl rfl rfl ⟨by rw [← hr2], HF.out⟩
  · go_simp
    refine hK.out _ _ (KEEP.out _ (hHeld.1.alloc _)) (fun hH1 => ?_)
    clear hK K
    try simp only [Act.put, List.setIfInBounds_toArray, List.set_cons_zero, List.set_cons_succ]
    refine wpAnyH_ready (rs := [1, 5]) (by kernel_rfl) (by simp) ?_
    refine AllReadyH.cons rfl (fun K hK => ?_) (AllReadyH.cons rfl (fun K hK => ?_) AllReadyH.nil)
    · go_simp
      go_at_call 26
      refine (rbytes_any k _ HKL.out).mono ?_
      rintro e wB ⟨rfl, hbwB⟩
      go_wp2_with fail
      refine hK.out _ _ (KEEP.out _ (hH1.1.call hbwB)) (fun hH2 => ?_)
      clear hK K
      try simp only [Act.put, List.setIfInBounds_toArray, List.set_cons_zero, List.set_cons_succ]
      refine rg_one (i := 5) (by kernel_rfl) rfl (fun K hK => ?_)
      refine rg_step (s := convert 48 9 (.slice (some ⟨w2.heap.size, 0, none⟩) 1 1)) (by rfl) rfl rfl (conv_kept (W := w2) (n := w2.heap.size) rfl hd0 hd1 (undrew2 hbwB)) ?_
      refine hK.out _ _ hH2 (fun _ => ?_)
      clear hK K
      try simp only [Act.put, List.setIfInBounds_toArray, List.set_cons_zero, List.set_cons_succ]
      refine rg_gen (i := 6) (v := .string (bstr k ++ bstr [UInt8.ofNat dom.toNat])) rfl (by kernel_rfl) (by kernel_rfl) (by kernel_rfl) (fun _ _ _ h => h) rfl (by rfl) ?_ (by assumption) ?_
      · intro w hSw
        try dsimp only at hSw
        go_simp
        try simp only [hsz1, if_true, Result.andThen_ok]
      try simp only [Act.put, List.setIfInBounds_toArray, List.set_cons_zero, List.set_cons_succ]
      refine rg_gen (i := 8) (v := .string (bstr k ++ bstr [UInt8.ofNat dom.toNat] ++ body)) rfl (by kernel_rfl) (by kernel_rfl) (by kernel_rfl) (fun _ _ _ h => h) rfl (by rfl) ?_ (by assumption) ?_
      · intro w hSw
        try dsimp only at hSw
        go_simp
        try simp only [hsz2, if_true, Result.andThen_ok]
      try simp only [Act.put, List.setIfInBounds_toArray, List.set_cons_zero, List.set_cons_succ]
      refine rg_one (i := 9) (by kernel_rfl) rfl (fun K hK => ?_)
      go_simp
      go_at_call 56
      refine (rsum_ex _ _ HSZ.out).mono ?_
      rintro e wS ⟨r, hrr, hrl, hi2, h12, rfl, hbS⟩
      go_wp2_with fail
      have hTG : TG w b k wS := hH2.1.call hbS
      refine hK.out _ _ (KEEP.out _ hTG) (fun hHS => ?_)
      clear hK K
      try simp only [Act.put, List.setIfInBounds_toArray, List.set_cons_zero, List.set_cons_succ]
      obtain ⟨_, _, _, cs, hcl, hcs⟩ := hHS.1
      refine rg_one (i := 10) (by kernel_rfl) rfl (fun K hK => ?_)
      refine rg_store (by rfl) rfl 51 (.tmp 6) (.tmp 35) rfl w.heap.size (u8s r) cs 51 rfl rfl hcs (by rw [u8s_length, hrl.out, hcl]) (hash_info hrl.out) h12 (fun wU hU => ?_)
      have hTU := hTG.updU hU hrl.out
      refine hK.out _ _ (KEEP.out _ hTU) (fun hHU => ?_)
      clear hK K
      try simp only [Act.put, List.setIfInBounds_toArray, List.set_cons_zero, List.set_cons_succ]
      refine rg_gen (i := 11) (v := ?_) rfl (by kernel_rfl) (by kernel_rfl) (by kernel_rfl) (fun _ _ _ h => h) rfl (by rfl) ?_ (by assumption) ?_
      rotate_left
      · intro w hSw
        try dsimp only at hSw
        go_simp
        try with_reducible rfl
      try simp only [Act.put, List.setIfInBounds_toArray, List.set_cons_zero, List.set_cons_succ]
      refine wpAnyH_done (by kernel_rfl) ?_ _
      have hr2 : r = tagOf who.toNat dom.toNat body.data.toList := by rw [hrr.out, HTL.out, HK.out]; rfl
      have HF := Lib.hid hTU.1
      go_wp2_with fail
      exact post_cell_tmp 6 7 51 rfl w.heap.size _ (u8s r) _ _ hU.at_ Tryd.underlying51 rfl (hash_info hrl.out) (.int .i64 0) rfl rfl rfl ⟨by rw [← hr2], HF.out⟩
    · refine rg_step (s := convert 48 9 (.slice (some ⟨w2.heap.size, 0, none⟩) 1 1)) (by rfl) rfl rfl (conv_kept (W := w2) (n := w2.heap.size) rfl hd0 hd1 (undrew2 (Below.refl _ _))) ?_
      refine hK.out _ _ hH1 (fun _ => ?_)
      clear hK K
      try simp only [Act.put, List.setIfInBounds_toArray, List.set_cons_zero, List.set_cons_succ]
      refine rg_one (i := 1) (by kernel_rfl) rfl (fun K hK => ?_)
      go_simp
      go_at_call 26
      refine (rbytes_any k _ HKL.out).mono ?_
      rintro e wB ⟨rfl, hbwB⟩
      go_wp2_with fail
      refine hK.out _ _ (KEEP.out _ (hH1.1.call hbwB)) (fun hH2 => ?_)
      clear hK K
      try simp only [Act.put, List.setIfInBounds_toArray, List.set_cons_zero, List.set_cons_succ]
      refine rg_gen (i := 6) (v := .string (bstr k ++ bstr [UInt8.ofNat dom.toNat])) rfl (by kernel_rfl) (by kernel_rfl) (by kernel_rfl) (fun _ _ _ h => h) rfl (by rfl) ?_ (by assumption) ?_
      · intro w hSw
        try dsimp only at hSw
        go_simp
        try simp only [hsz1, if_true, Result.andThen_ok]
      try simp only [Act.put, List.setIfInBounds_toArray, List.set_cons_zero, List.set_cons_succ]
      refine rg_gen (i := 8) (v := .string (bstr k ++ bstr [UInt8.ofNat dom.toNat] ++ body)) rfl (by kernel_rfl) (by kernel_rfl) (by kernel_rfl) (fun _ _ _ h => h) rfl (by rfl) ?_ (by assumption) ?_
      · intro w hSw
        try dsimp only at hSw
        go_simp
        try simp only [hsz2, if_true, Result.andThen_ok]
      try simp only [Act.put, List.setIfInBounds_toArray, List.set_cons_zero, List.set_cons_succ]
      refine rg_one (i := 9) (by kernel_rfl) rfl (fun K hK => ?_)
      go_simp
      go_at_call 56
      refine (rsum_ex _ _ HSZ.out).mono ?_
      rintro e wS ⟨r, hrr, hrl, hi2, h12, rfl, hbS⟩
      go_wp2_with fail
      have hTG : TG w b k wS := hH2.1.call hbS
      refine hK.out _ _ (KEEP.out _ hTG) (fun hHS => ?_)
      clear hK K
      try simp only [Act.put, List.setIfInBounds_toArray, List.set_cons_zero, List.set_cons_succ]
      obtain ⟨_, _, _, cs, hcl, hcs⟩ := hHS.1
      refine rg_one (i := 10) (by kernel_rfl) rfl (fun K hK => ?_)
      refine rg_store (by rfl) rfl 51 (.tmp 6) (.tmp 35) rfl w.heap.size (u8s r) cs 51 rfl rfl hcs (by rw [u8s_length, hrl.out, hcl]) (hash_info hrl.out) h12 (fun wU hU => ?_)
      have hTU := hTG.updU hU hrl.out
      refine hK.out _ _ (KEEP.out _ hTU) (fun hHU => ?_)
      clear hK K
      try simp only [Act.put, List.setIfInBounds_toArray, List.set_cons_zero, List.set_cons_succ]
      refine rg_gen (i := 11) (v := ?_) rfl (by kernel_rfl) (by kernel_rfl) (by kernel_rfl) (fun _ _ _ h => h) rfl (by rfl) ?_ (by assumption) ?_
      rotate_left
      · intro w hSw
        try dsimp only at hSw
        go_simp
        try with_reducible rfl
      try simp only [Act.put, List.setIfInBounds_toArray, List.set_cons_zero, List.set_cons_succ]
      refine wpAnyH_done (by kernel_rfl) ?_ _
      have hr2 : r = tagOf who.toNat dom.toNat body.data.toList := by rw [hrr.out, HTL.out, HK.out]; rfl
      have HF := Lib.hid hTU.1
      go_wp2_with fail
      exact post_cell_tmp 6 7 51 rfl w.heap.size _ (u8s r) _ _ hU.at_ Tryd.underlying51 rfl (hash_info hrl.out) (.int .i64 0) rfl rfl rfl ⟨by rw [← hr2], HF.out⟩
theorem rchk_ok (who dom : Int) (body : ByteArray) (tag : List UInt8) (w : World) (h0 : 0 ≤ who) (h1 : who ≤ 64) (h2 : 1 ≤ dom) (h3 : dom ≤ 4) (hb : body.size ≤ 70368744177664) (ht : tag.length = 32) :
    Calls Tryd.prog 38 #[.int .i64 who, .int .i64 dom, .string body, .agg (u8s tag).toArray] w fun e w' => e = .returned (.int .i64 (errTag (tagOf who.toNat dom.toNat body.data.toList) tag)) ∧ Below w.heap.size w w' := by
  have HT := Lib.hid ht
  clear ht
  go_enter Tryd.func38, Tryd.ntmps38
  go_wp2_with fail
  refine (rtag_ok who dom body _ h0 h1 h2 h3 hb).mono ?_
  rintro e w1 ⟨rfl, hb1⟩
  obtain ⟨k, hk⟩ : ∃ k, k = tagOf who.toNat dom.toNat body.data.toList := ⟨_, rfl⟩
  rw [← hk]
  have HKL : Hid (k.length = 32) := show _ = _ by rw [hk]; exact tagOf_length _ _ _
  have HK := Lib.hid hk
  have hz0 : w1.heap[w.heap.size]? = some (.cells (u8s tag).toArray 51 (0, 0)) := (hb1.block _ (by simp)).trans (heap_alloc_new w _)
  have HB1 := Lib.hid (bw_call (bw_alloc (Below.refl w.heap.size w) _) hb1)
  have hz1 : (w1.alloc (.cells zl32.toArray 51)).heap[w1.heap.size]? = some (.cells (u8s z32).toArray 51 (0, 0)) := by rw [zl32_eq]; exact heap_alloc_new _ _
  have heq := fun w => eq_hash HKL.out HT.out w
  clear hk hb1
  by_cases hkt : k = tag
  · have hd : decide (k = tag) = true := by simpa using hkt
    have HF : Hid (errTag (tagOf who.toNat dom.toNat body.data.toList) tag = 0) := show _ = _ by unfold errTag; rw [← HK.out, if_pos hkt]
    clear hkt
    go_wp2_with (first
      | ((with_reducible refine wpList_store_whole rfl 51 (.tmp 9) (.tmp 16) rfl w1.heap.size (u8s k) (u8s z32) 51 rfl rfl hz1 (by rw [u8s_length, u8s_length, HKL.out, z32_length]) (hash_info HKL.out) (u8s_one _) ?_); intro w2 hU; have hz2 := (hU.out.other _ (Nat.ne_of_lt (block_lt hz0))).trans ((Below.heap_alloc _ _ _ (block_lt hz0)).trans hz0))
      | (with_reducible refine wpList_load_rows rfl 51 (.tmp 9) rfl w1.heap.size 0 (u8s k) (u8s k) 51 (0, 0) _ rfl hU.out.at_ id_at Tryd.underlying51 rfl (hash_info HKL.out) ?_)
      | (with_reducible refine wpList_load_rows rfl 51 (.tmp 7) rfl w.heap.size 0 (u8s tag) (u8s tag) 51 (0, 0) _ rfl hz2 id_at Tryd.underlying51 rfl (hash_info HT.out) ?_))
    go_ret
    rw [HF.out]
    exact ⟨rfl, hU.out.below (bw_alloc HB1.out _) HB1.out.size⟩
  · have hd : decide (k = tag) = false := by simpa using hkt
    have HF : Hid (errTag (tagOf who.toNat dom.toNat body.data.toList) tag = 21) := show _ = _ by unfold errTag; rw [← HK.out, if_neg hkt]
    clear hkt
    go_wp2_with (first
      | ((with_reducible refine wpList_store_whole rfl 51 (.tmp 9) (.tmp 16) rfl w1.heap.size (u8s k) (u8s z32) 51 rfl rfl hz1 (by rw [u8s_length, u8s_length, HKL.out, z32_length]) (hash_info HKL.out) (u8s_one _) ?_); intro w2 hU; have hz2 := (hU.out.other _ (Nat.ne_of_lt (block_lt hz0))).trans ((Below.heap_alloc _ _ _ (block_lt hz0)).trans hz0))
      | (with_reducible refine wpList_load_rows rfl 51 (.tmp 9) rfl w1.heap.size 0 (u8s k) (u8s k) 51 (0, 0) _ rfl hU.out.at_ id_at Tryd.underlying51 rfl (hash_info HKL.out) ?_)
      | (with_reducible refine wpList_load_rows rfl 51 (.tmp 7) rfl w.heap.size 0 (u8s tag) (u8s tag) 51 (0, 0) _ rfl hz2 id_at Tryd.underlying51 rfl (hash_info HT.out) ?_))
    go_ret
    rw [HF.out]
    exact ⟨rfl, hU.out.below (bw_alloc HB1.out _) HB1.out.size⟩
end Go.Proofs.YtbeooeihedhabaaDoor
