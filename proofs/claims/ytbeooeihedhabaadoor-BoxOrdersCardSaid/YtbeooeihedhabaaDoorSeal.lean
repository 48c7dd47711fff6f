/- digest.Chain, seal.Key, seal.Tag, seal.Check: what the calls do. -/
import Derived.Test.YtbeooeihedhabaaDoorSum
import Derived.Test.YtbeooeihedhabaaDoorRowB
import Derived.Test.YtbeooeihedhabaaDoorNums
import Derived.Test.YtbeooeihedhabaaDoorCBuf
namespace Go.Proofs.YtbeooeihedhabaaDoor
open Go.RowKit
theorem hash_info {h : List UInt8} (hl : h.length = 32) : (Tryd.prog.info? 51).map (·.size) = some (u8s h).length := by rw [u8s_length, hl]; kernel_rfl
theorem eq_hash {a b : List UInt8} (ha : a.length = 32) (hb : b.length = 32) (w : World) : (Op.equalIn 10000 51 (.agg (u8s a).toArray) (.agg (u8s b).toArray)).run Tryd.prog w = .ok (decide (a = b)) w :=
  run_equal_u8s Tryd.underlying51 byte_info rfl Tryd.underlying5 (by kernel_rfl) 9998 a b ha hb w
theorem sha_length (l : List UInt8) : (sha l).length = 32 := rfl
theorem conv_hash {w : World} {b : Nat} {h : List UInt8} {t : TypeId} {fr : Nat × Nat} (hl : h.length = 32) (hg : w.heap[b]? = some (.cells (u8s h).toArray t fr)) (c : Nat) :
    (convert 48 9 (.slice (some ⟨b, 0, none⟩) 32 c)).run Tryd.prog w = .ok (.string (bstr h)) w :=
  conv_row h Tryd.underlying48 Tryd.underlying5 Tryd.underlying9 hl fun i hi => by
    rw [cell_of_row w b _ _ _ _ hg, List.getElem?_toArray, Nat.zero_add]
theorem cat_list (l : List UInt8) (s : ByteArray) : (bstr l ++ s).data.toList = l ++ s.data.toList := by
  rw [ByteArray.data_append, Array.toList_append]
  rfl
set_option maxHeartbeats 400000 in
set_option maxRecDepth 4000 in
theorem chain_any (h : List UInt8) (s : ByteArray) (w : World) (hl : h.length = 32) (hs : s.size ≤ 140737488355200) (hR : RoundsAt w) :
    Calls Tryd.prog 65 #[.agg (u8s h).toArray, .string s] w fun e w' => e = .returned (.agg (u8s (sha (h ++ s.data.toList))).toArray) ∧ Below w.heap.size w w' := by
  have HR := Lib.hid hR
  have HL := Lib.hid hl
  have hsz : (bstr h).size + s.size ≤ 9223372036854775807 := by rw [bstr_size, hl]; omega
  have hcv := fun Z => conv_hash (w := (w.alloc (.cells (u8s h).toArray 51)).alloc Z) (b := w.heap.size) hl (by rw [Below.heap_alloc _ _ _ (by simp)]; exact heap_alloc_new _ _) 32
  clear hR hl
  go_enter Tryd.func65, Tryd.ntmps65
  go_wp2_with fail
  have hsz2 : (bstr h ++ s).size ≤ 140737488355328 := by rw [ByteArray.size_append, bstr_size, HL.out]; omega
  have HSZ2 := Lib.hid hsz2
  clear hsz2
  refine (sum_any (bstr h ++ s) _ HSZ2.out (HR.out.below (bw_alloc (bw_alloc (Below.refl _ _) _) _) HR.out.1)).mono ?_
  rintro e w1 ⟨rfl, hb⟩
  rw [cat_list]
  have hz : w1.heap[w.heap.size + 1]? = some (.cells (u8s z32).toArray 51 (0, 0)) := (hb.block (w.heap.size + 1) (by simp)).trans (heap_alloc2_new w _ _)
  have HB := Lib.hid (bw_call (bw_alloc (bw_alloc (Below.refl _ w) _) _) hb)
  clear hb hcv hsz
  obtain ⟨r, hr⟩ : ∃ r, r = sha (h ++ s.data.toList) := ⟨_, rfl⟩
  rw [← hr]
  have HSL : Hid (r.length = 32) := show _ = _ by rw [hr]; exact sha_length _
  have HRR := Lib.hid hr
  clear hr
  go_wp2_with ((with_reducible refine wpList_store_whole rfl 51 (.tmp 4) (.tmp 9) rfl (w.heap.size + 1) (u8s r) (u8s z32) 51 rfl rfl hz (by rw [u8s_length, u8s_length, HSL.out, z32_length]) (hash_info HSL.out) (u8s_one _) ?_); intro w2 hU)
  exact bodyPost_ret (v := .agg (u8s r).toArray) (results_cell_row rfl _ _ (w.heap.size + 1) _ _ _ _ rfl hU.out.at_ Tryd.underlying51 rfl (by rw [List.size_toArray]; exact hash_info HSL.out)) rfl ⟨by rw [HRR.out], hU.out.below HB.out (by omega)⟩
def keyB : List UInt8 := [107, 101, 121]
def keyOf (who : Nat) : List UInt8 := sha (keyB ++ numEnc who)
set_option maxHeartbeats 400000 in
set_option maxRecDepth 4000 in
theorem key_ok (who : Int) (w : World) (h0 : 0 ≤ who) (h1 : who ≤ 64) (hR : RoundsAt w) :
    Calls Tryd.prog 64 #[.int .i64 who] w fun e w' => e = .returned (.tuple #[.agg (u8s (keyOf who.toNat)).toArray, .int .i64 0]) ∧ Below w.heap.size w w' := by
  have HR := Lib.hid hR
  clear hR
  go_enter Tryd.func64, Tryd.ntmps64
  go_wp2_with fail
  refine (number_any _ _ (by omega) (by omega)).mono ?_
  rintro e w1 ⟨rfl, hb⟩
  have hz : w1.heap[w.heap.size]? = some (.cells (u8s z32).toArray 51 (0, 0)) := (hb.block w.heap.size (by simp)).trans (heap_alloc_new w _)
  have HB := Lib.hid (bw_call (bw_alloc (Below.refl _ w) _) hb)
  clear hb
  have hn := num_small (n := who.toNat) (by omega)
  have hsz : (⟨#[107, 101, 121]⟩ : ByteArray).size + (bstr (numEnc who.toNat)).size ≤ 9223372036854775807 := by rw [bstr_size]; show 3 + _ ≤ _; omega
  go_wp2_with fail
  refine (sum_any _ _ ?_ (HR.out.below HB.out HR.out.1)).mono ?_
  · rw [ByteArray.size_append, bstr_size]; show 3 + _ ≤ _; omega
  rintro e w2 ⟨rfl, hb2⟩
  obtain ⟨r, hr⟩ : ∃ r, r = keyOf who.toNat := ⟨_, rfl⟩
  have hr2 : sha (({ data := #[107, 101, 121] } ++ bstr (numEnc who.toNat) : ByteArray)).data.toList = r := by rw [hr]; unfold keyOf; rw [show ({ data := #[107, 101, 121] } : ByteArray) = bstr keyB from rfl, bstr_append, bstr_toList]
  rw [hr2]
  have HSL : Hid (r.length = 32) := show _ = _ by rw [hr]; exact sha_length _
  have hz2 : w2.heap[w.heap.size]? = some (.cells (u8s z32).toArray 51 (0, 0)) := (hb2.block _ (block_lt hz)).trans hz
  have HB2 := Lib.hid (bw_call HB.out hb2)
  have HRR := Lib.hid hr
  clear hr hr2 hb2 hz hsz
  go_wp2_with ((with_reducible refine wpList_store_whole rfl 51 (.tmp 2) (.tmp 20) rfl w.heap.size (u8s r) (u8s z32) 51 rfl rfl hz2 (by rw [u8s_length, u8s_length, HSL.out, z32_length]) (hash_info HSL.out) (u8s_one _) ?_); intro w3 hU)
  exact post_cell_tmp 2 3 51 rfl w.heap.size _ (u8s r) _ _ hU.out.at_ Tryd.underlying51 rfl (hash_info HSL.out) (.int .i64 0) rfl rfl rfl ⟨by rw [HRR.out], hU.out.below HB2.out (Nat.le_refl _)⟩
set_option maxHeartbeats 400000 in
set_option maxRecDepth 4000 in
theorem key_err (who : Int) (w : World) (h : who < 0 ∨ 64 < who) :
    Calls Tryd.prog 64 #[.int .i64 who] w fun e w' => e = .returned (.tuple #[.agg (u8s z32).toArray, .int .i64 20]) ∧ Below w.heap.size w w' := by
  rcases h with h | h
  all_goals
    have hz : (w.alloc (.cells zl32.toArray 51)).heap[w.heap.size]? = some (.cells (u8s z32).toArray 51 (0, 0)) := by rw [zl32_eq]; exact heap_alloc_new _ _
    go_enter Tryd.func64, Tryd.ntmps64
    go_wp2_with ((with_reducible refine wpList_store_whole rfl 51 (.tmp 2) (.tmp 12) rfl w.heap.size zl32 (u8s z32) 51 rfl rfl hz (by rw [zl32_length, u8s_length, z32_length]) (by rw [zl32_eq]; exact hash_info z32_length) zl32_one ?_); intro w3 hU)
    exact post_cell_tmp 2 3 51 rfl w.heap.size _ zl32 _ _ hU.out.at_ Tryd.underlying51 rfl (by rw [zl32_eq]; exact hash_info z32_length) (.int .i64 20) rfl rfl rfl ⟨by rw [zl32_eq], hU.out.below (bw_alloc (Below.refl _ _) _) (Nat.le_refl _)⟩
theorem keyOf_length (n : Nat) : (keyOf n).length = 32 := sha_length _
def tagOf (who d : Nat) (body : List UInt8) : List UInt8 := sha (keyOf who ++ (UInt8.ofNat d :: body))
theorem tagOf_length (who d : Nat) (body : List UInt8) : (tagOf who d body).length = 32 := sha_length _
theorem id_at {cs : List Value} : ∀ j v, cs[j]? = some v → cs[0 + j]? = some v := fun j v h => by rw [Nat.zero_add]; exact h
theorem conv_byte (d : Int) (h0 : 0 ≤ d) (h1 : d ≤ 255) (W : World) :
    (convert 48 9 (.slice (some ⟨W.heap.size, 0, none⟩) 1 1)).run Tryd.prog (W.alloc (.cells #[.int .u8 d] 5)) = .ok (.string (bstr [UInt8.ofNat d.toNat])) (W.alloc (.cells #[.int .u8 d] 5)) := by
  refine conv_new [UInt8.ofNat d.toNat] Tryd.underlying48 Tryd.underlying5 Tryd.underlying9 rfl fun i hi => ?_
  obtain rfl : i = 0 := by omega
  simp [u8s]
  omega
set_option maxHeartbeats 400000 in
set_option maxRecDepth 4000 in
theorem tag_ok (who dom : Int) (body : ByteArray) (w : World) (h0 : 0 ≤ who) (h1 : who ≤ 64) (h2 : 1 ≤ dom) (h3 : dom ≤ 4) (hb : body.size ≤ 70368744177664) (hR : RoundsAt w) :
    Calls Tryd.prog 29 #[.int .i64 who, .int .i64 dom, .string body] w fun e w' => e = .returned (.tuple #[.agg (u8s (tagOf who.toNat dom.toNat body.data.toList)).toArray, .int .i64 0]) ∧ Below w.heap.size w w' := by
  have HR := Lib.hid hR
  clear hR
  have hcv := fun W => conv_byte dom (by omega) (by omega) W
  have hsz : (bstr [UInt8.ofNat dom.toNat]).size + body.size ≤ 9223372036854775807 := by rw [bstr_size]; show 1 + _ ≤ _; omega
  have hd0 : 0 ≤ dom := by omega
  have hd1 : dom ≤ 255 := by omega
  go_enter Tryd.func29, Tryd.ntmps29
  go_wp2_with fail
  refine (key_ok who _ h0 h1 (HR.out.below (bw_alloc (Below.refl _ _) _) HR.out.1)).mono ?_
  rintro e w1 ⟨rfl, hb1⟩
  obtain ⟨k, hk⟩ : ∃ k, k = keyOf who.toNat := ⟨_, rfl⟩
  rw [← hk]
  have HKL : Hid (k.length = 32) := show _ = _ by rw [hk]; exact keyOf_length _
  have HK := Lib.hid hk
  have hz0 : w1.heap[w.heap.size]? = some (.cells (u8s z32).toArray 51 (0, 0)) := (hb1.block _ (by simp)).trans (heap_alloc_new w _)
  have HB1 := Lib.hid (bw_call (bw_alloc (Below.refl w.heap.size w) _) hb1)
  have hz1 : (w1.alloc (.cells zl32.toArray 51)).heap[w1.heap.size]? = some (.cells (u8s z32).toArray 51 (0, 0)) := by rw [zl32_eq]; exact heap_alloc_new _ _
  clear hk hb1
  go_wp2_with (first
    | ((with_reducible refine wpList_store_whole rfl 51 (.tmp 8) (.tmp 13) rfl w1.heap.size (u8s k) (u8s z32) 51 rfl rfl hz1 (by rw [u8s_length, u8s_length, HKL.out, z32_length]) (hash_info HKL.out) (u8s_one _) ?_); intro w2 hU)
    | (with_reducible refine wpList_load_rows rfl 51 (.tmp 8) rfl w1.heap.size 0 (u8s k) (u8s k) 51 (0, 0) _ rfl hU.out.at_ id_at Tryd.underlying51 rfl (hash_info HKL.out) ?_))
  have hW2 : Below w.heap.size w w2 := hU.out.below (bw_alloc HB1.out _) HB1.out.size
  refine (chain_any k _ _ HKL.out ?_ (HR.out.below (bw_alloc hW2 _) HR.out.1)).mono ?_
  · rw [ByteArray.size_append, bstr_size]; show 1 + _ ≤ _; omega
  rintro e w3 ⟨rfl, hb3⟩
  obtain ⟨r, hr⟩ : ∃ r, r = tagOf who.toNat dom.toNat body.data.toList := ⟨_, rfl⟩
  have hr2 : sha (k ++ (bstr [UInt8.ofNat dom.toNat] ++ body).data.toList) = r := by rw [hr, cat_list, HK.out]; rfl
  rw [hr2]
  have HRL : Hid (r.length = 32) := show _ = _ by rw [hr]; exact tagOf_length _ _ _
  have hz3 : w3.heap[w.heap.size]? = some (.cells (u8s z32).toArray 51 (0, 0)) := by
    have hlt := block_lt hz0
    rw [hb3.block _ (by simp; rw [hU.out.size]; simp; omega), Below.heap_alloc _ _ _ (by rw [hU.out.size]; simp; omega), hU.out.other _ (by omega), Below.heap_alloc _ _ _ hlt]
    exact hz0
  have HB3 := Lib.hid (bw_call (bw_alloc hW2 _) hb3)
  have HRR := Lib.hid hr
  clear hr hr2 hb3 hz0 hz1 hsz
  go_wp2_with ((with_reducible refine wpList_store_whole rfl 51 (.tmp 6) (.tmp 33) rfl w.heap.size (u8s r) (u8s z32) 51 rfl rfl hz3 (by rw [u8s_length, u8s_length, HRL.out, z32_length]) (hash_info HRL.out) (u8s_one _) ?_); intro w4 hU4)
  exact post_cell_tmp 6 7 51 rfl w.heap.size _ (u8s r) _ _ hU4.out.at_ Tryd.underlying51 rfl (hash_info HRL.out) (.int .i64 0) rfl rfl rfl ⟨by rw [HRR.out], hU4.out.below HB3.out (Nat.le_refl _)⟩
def errTag (a b : List UInt8) : Int := if a = b then 0 else 21
set_option maxHeartbeats 400000 in
set_option maxRecDepth 4000 in
theorem check_ok (who dom : Int) (body : ByteArray) (tag : List UInt8) (w : World) (h0 : 0 ≤ who) (h1 : who ≤ 64) (h2 : 1 ≤ dom) (h3 : dom ≤ 4) (hb : body.size ≤ 70368744177664) (ht : tag.length = 32) (hR : RoundsAt w) :
    Calls Tryd.prog 34 #[.int .i64 who, .int .i64 dom, .string body, .agg (u8s tag).toArray] w fun e w' => e = .returned (.int .i64 (errTag (tagOf who.toNat dom.toNat body.data.toList) tag)) ∧ Below w.heap.size w w' := by
  have HR := Lib.hid hR
  have HT := Lib.hid ht
  clear hR ht
  go_enter Tryd.func34, Tryd.ntmps34
  go_wp2_with fail
  refine (tag_ok who dom body _ h0 h1 h2 h3 hb (HR.out.below (bw_alloc (Below.refl _ _) _) HR.out.1)).mono ?_
  rintro e w1 ⟨rfl, hb1⟩
  obtain ⟨k, hk⟩ : ∃ k, k = tagOf who.toNat dom.toNat body.data.toList := ⟨_, rfl⟩
  rw [← hk]
  have HKL : Hid (k.length = 32) := show _ = _ by rw [hk]; exact tagOf_length _ _ _
  have HK := Lib.hid hk
  have hz0 : w1.heap[w.heap.size]? = some (.cells (u8s tag).toArray 51 (0, 0)) := (hb1.block _ (by simp)).trans (heap_alloc_new w _)
  have HB1 := Lib.hid (bw_call (bw_alloc (Below.refl w.heap.size w) _) hb1)
  have hz1 : (w1.alloc (.cells zl32.toArray 51)).heap[w1.heap.size]? = some (.cells (u8s z32).toArray 51 (0, 0)) := by rw [zl32_eq]; exact heap_alloc_new _ _
  have heq := fun w => eq_hash HKL.out HT.out w
  clear hk hb1
  by_cases hkt : k = tag
  · have hd : decide (k = tag) = true := by simpa using hkt
    have HF : Hid (errTag (tagOf who.toNat dom.toNat body.data.toList) tag = 0) := show _ = _ by unfold errTag; rw [← HK.out, if_pos hkt]
    clear hkt
    go_wp2_with (first
      | ((with_reducible refine wpList_store_whole rfl 51 (.tmp 9) (.tmp 16) rfl w1.heap.size (u8s k) (u8s z32) 51 rfl rfl hz1 (by rw [u8s_length, u8s_length, HKL.out, z32_length]) (hash_info HKL.out) (u8s_one _) ?_); intro w2 hU; have hz2 := (hU.out.other _ (Nat.ne_of_lt (block_lt hz0))).trans ((Below.heap_alloc _ _ _ (block_lt hz0)).trans hz0))
      | (with_reducible refine wpList_load_rows_g (by kernel_rfl) 51 (.tmp 9) rfl w1.heap.size 0 (u8s k) (u8s k) 51 (0, 0) _ rfl hU.out.at_ id_at Tryd.underlying51 rfl (hash_info HKL.out) ?_)
      | (with_reducible refine wpList_load_rows_g (by kernel_rfl) 51 (.tmp 7) rfl w.heap.size 0 (u8s tag) (u8s tag) 51 (0, 0) _ rfl hz2 id_at Tryd.underlying51 rfl (hash_info HT.out) ?_))
    go_ret
    rw [HF.out]
    exact ⟨rfl, hU.out.below (bw_alloc HB1.out _) HB1.out.size⟩
  · have hd : decide (k = tag) = false := by simpa using hkt
    have HF : Hid (errTag (tagOf who.toNat dom.toNat body.data.toList) tag = 21) := show _ = _ by unfold errTag; rw [← HK.out, if_neg hkt]
    clear hkt
    go_wp2_with (first
      | ((with_reducible refine wpList_store_whole rfl 51 (.tmp 9) (.tmp 16) rfl w1.heap.size (u8s k) (u8s z32) 51 rfl rfl hz1 (by rw [u8s_length, u8s_length, HKL.out, z32_length]) (hash_info HKL.out) (u8s_one _) ?_); intro w2 hU; have hz2 := (hU.out.other _ (Nat.ne_of_lt (block_lt hz0))).trans ((Below.heap_alloc _ _ _ (block_lt hz0)).trans hz0))
      | (with_reducible refine wpList_load_rows_g (by kernel_rfl) 51 (.tmp 9) rfl w1.heap.size 0 (u8s k) (u8s k) 51 (0, 0) _ rfl hU.out.at_ id_at Tryd.underlying51 rfl (hash_info HKL.out) ?_)
      | (with_reducible refine wpList_load_rows_g (by kernel_rfl) 51 (.tmp 7) rfl w.heap.size 0 (u8s tag) (u8s tag) 51 (0, 0) _ rfl hz2 id_at Tryd.underlying51 rfl (hash_info HT.out) ?_))
    go_ret
    rw [HF.out]
    exact ⟨rfl, hU.out.below (bw_alloc HB1.out _) HB1.out.size⟩
end Go.Proofs.YtbeooeihedhabaaDoor
