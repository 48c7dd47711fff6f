/- digest.Sum: what the call does. -/
import Derived.Test.YtbeooeihedhabaaDoorTurn
import Derived.Test.YtbeooeihedhabaaDoorNums
import Derived.Test.YtbeooeihedhabaaDoorRowB
import Derived.Deep.RegionWith
import Derived.Deep.MidRow
import Derived.Deep.RegionLaw
namespace Go.Proofs.YtbeooeihedhabaaDoor
open Go.RowKit
def zr (n : Nat) : List UInt8 := List.replicate n 0
theorem zr_length (n : Nat) : (zr n).length = n := List.length_replicate ..
def shaInit : St := ⟨1779033703, 3144134277, 1013904242, 2773480762, 1359893119, 2600822924, 528734635, 1541459225⟩
def blk (l : List UInt8) (m : Nat) : List UInt8 := (l.drop (64 * m)).take 64
def runFrom (s : St) (l : List UInt8) : Nat → St
  | 0 => s
  | m + 1 => (runFrom s l m).block (blk l m)
theorem RoundsAt.below {w w' : World} (h : RoundsAt w) {B : Nat} (hb : Below B w w') (hB : 0 < B) : RoundsAt w' :=
  ⟨Nat.lt_of_lt_of_le h.1 hb.size, fun i hi => by rw [hb.cell (p := ⟨0, i, none⟩) hB]; exact h.2 i hi⟩
theorem runFrom_ok {s : St} (h : s.ok) (l : List UInt8) : ∀ m, (runFrom s l m).ok
  | 0 => h
  | _m + 1 => St.block_ok _ _
/-- what Sum's memory holds -/
def SumA (w wr : World) (v : St) : Prop :=
  Below w.heap.size w wr ∧ w.heap.size + 2 ≤ wr.heap.size ∧ wr.heap[w.heap.size]? = some (.cells (u8s (List.replicate 32 0)).toArray 51 (0, 0)) ∧ wr.heap[w.heap.size + 1]? = some (.cells (u32v v.l).toArray 117 (0, 0))
theorem sumA_start (w : World) : SumA w ((w.alloc (.cells (u8s (List.replicate 32 0)).toArray 51)).alloc (.cells (u32v shaInit.l).toArray 117)) shaInit := by
  refine ⟨bw_alloc (bw_alloc (Below.refl _ _) _) _, by simp, ?_, ?_⟩
  · rw [Below.heap_alloc _ _ w.heap.size (by simp), heap_alloc_new]
  · have := heap_alloc_new (w.alloc (.cells (u8s (List.replicate 32 0)).toArray 51)) (.cells (u32v shaInit.l).toArray 117)
    simpa using this
theorem SumA.cells {w wr : World} {v : St} (h : SumA w wr v) :
    wr.cell? ⟨w.heap.size + 1, 0, none⟩ = some (.int .u32 v.a) ∧ wr.cell? ⟨w.heap.size + 1, 1, none⟩ = some (.int .u32 v.b) ∧ wr.cell? ⟨w.heap.size + 1, 2, none⟩ = some (.int .u32 v.c) ∧ wr.cell? ⟨w.heap.size + 1, 3, none⟩ = some (.int .u32 v.d) ∧
    wr.cell? ⟨w.heap.size + 1, 4, none⟩ = some (.int .u32 v.e) ∧ wr.cell? ⟨w.heap.size + 1, 5, none⟩ = some (.int .u32 v.f) ∧ wr.cell? ⟨w.heap.size + 1, 6, none⟩ = some (.int .u32 v.g) ∧ wr.cell? ⟨w.heap.size + 1, 7, none⟩ = some (.int .u32 v.h) := by
  have hc : ∀ k, k < 8 → wr.cell? ⟨w.heap.size + 1, k, none⟩ = some (.int .u32 (v.l.getD k 0)) := fun k hk => by
    rw [cell_of_row wr _ k _ _ _ h.2.2.2, u32v_at v.l k (by rw [St.l_length]; exact hk)]
  exact ⟨hc 0 (by omega), hc 1 (by omega), hc 2 (by omega), hc 3 (by omega), hc 4 (by omega), hc 5 (by omega), hc 6 (by omega), hc 7 (by omega)⟩
theorem extract_64 {s : ByteArray} {m : Nat} (h : 64 * m + 64 ≤ s.size) : (s.extract (64 * m) (64 * m + 64)).size = 64 := by
  rw [ByteArray.size_extract]
  omega
theorem extract_str64 (s : ByteArray) (m : Nat) : (s.extract (64 * m) (64 * m + 64)).data.toList = blk s.data.toList m := by
  rw [extract_str]; rfl
theorem shaInit_ok : shaInit.ok := St.ok_mk (by decide) (by decide) (by decide) (by decide) (by decide) (by decide) (by decide) (by decide)
theorem block_ex (v : St) (b : ByteArray) (w : World) (hb : b.size = 64) (hR : RoundsAt w) (hS : v.ok) :
    Calls Tryd.prog 95 #[.agg #[.int .u32 v.a, .int .u32 v.b, .int .u32 v.c, .int .u32 v.d, .int .u32 v.e, .int .u32 v.f, .int .u32 v.g, .int .u32 v.h], .string b] w
      fun e w' => ∃ r : St, Hid (r = v.block b.data.toList) ∧ e = .returned (.agg #[.int .u32 r.a, .int .u32 r.b, .int .u32 r.c, .int .u32 r.d, .int .u32 r.e, .int .u32 r.f, .int .u32 r.g, .int .u32 r.h]) ∧ Below w.heap.size w w' :=
  (block_any v.a v.b v.c v.d v.e v.f v.g v.h b w hb hR hS).mono fun _ _ h => ⟨v.block b.data.toList, rfl, h.1, h.2⟩
theorem SumA.drew {w wr : World} {v : St} (h : SumA w wr v) : SumA w wr.drew v := ⟨h.1.drew, h.2.1, h.2.2.1, h.2.2.2⟩
theorem SumA.drewN {w wr : World} {v : St} (h : SumA w wr v) (n : Nat) : SumA w (wr.drewN n) v := ⟨bw_drewN h.1 n, h.2.1, h.2.2.1, h.2.2.2⟩
theorem SumA.call {w wr w' : World} {v : St} (h : SumA w wr v) (hb : Below wr.heap.size wr w') : SumA w w' v := by
  have h2 := h.2.1
  refine ⟨bw_call h.1 hb, Nat.le_trans h.2.1 hb.size, ?_, ?_⟩
  · rw [hb.block _ (by omega)]; exact h.2.2.1
  · rw [hb.block _ (by omega)]; exact h.2.2.2
theorem SumA.free {w wr : World} {v : St} (h : SumA w wr v) (k : Nat) : wr.frozen? ⟨w.heap.size + 1, k, none⟩ = false := frozen_of_row wr _ k _ _ h.2.2.2
theorem SumA.put {w wr : World} {v : St} (h : SumA w wr v) (r : St) : SumA w (set8 wr (w.heap.size + 1) r) r := by
  refine ⟨set8_below h.1 (by omega), by unfold set8; simp [World.setCell]; exact h.2.1, ?_, ?_⟩
  · unfold set8
    rw [heap_setCell_other _ _ _ _ (by simp), heap_setCell_other _ _ _ _ (by simp), heap_setCell_other _ _ _ _ (by simp), heap_setCell_other _ _ _ _ (by simp), heap_setCell_other _ _ _ _ (by simp), heap_setCell_other _ _ _ _ (by simp), heap_setCell_other _ _ _ _ (by simp), heap_setCell_other _ _ _ _ (by simp)]
    exact h.2.2.1
  · exact u32_set (u32_set (u32_set (u32_set (u32_set (u32_set (u32_set (u32_set h.2.2.2 _) _) _) _) _) _) _) _
/-- .. and the array of what stands at the end -/
def SumB (w wr : World) (E : Nat) (v : St) (L : List UInt8) : Prop := SumA w wr v ∧ w.heap.size + 2 ≤ E ∧ wr.heap[E]? = some (.cells (u8s L).toArray 119 (0, 0))
theorem zero128 : Tryd.zeroCells119 = (u8s (zr 128)).toArray := by kernel_rfl
theorem SumB.start {w wr : World} {v : St} (h : SumA w wr v) : SumB w (wr.alloc (.cells Tryd.zeroCells119 119)) wr.heap.size v (zr 128) := by
  have h2 := h.2.1
  refine ⟨⟨bw_alloc h.1 _, by simp; omega, ?_, ?_⟩, h2, ?_⟩
  · rw [Below.heap_alloc _ _ _ (by omega)]; exact h.2.2.1
  · rw [Below.heap_alloc _ _ _ (by omega)]; exact h.2.2.2
  · rw [zero128]; exact heap_alloc_new _ _
theorem SumB.drew {w wr : World} {E : Nat} {v : St} {L : List UInt8} (h : SumB w wr E v L) : SumB w wr.drew E v L := ⟨h.1.drew, h.2.1, h.2.2⟩
theorem SumB.row {w wr : World} {E : Nat} {v : St} {L : List UInt8} (h : SumB w wr E v L) (M : List UInt8) : SumB w (wr.setRow E (u8s M).toArray) E v M := by
  have h2 := h.2.1
  refine ⟨⟨below_setRow h.1.1 (by omega) _, by simp; exact h.1.2.1, ?_, ?_⟩, h.2.1, setRow_heap wr E _ _ _ _ h.2.2⟩
  · rw [setRow_other wr E _ _ (by omega)]; exact h.1.2.2.1
  · rw [setRow_other wr E _ _ (by omega)]; exact h.1.2.2.2
theorem u8s_set (l : List UInt8) (k : Nat) (x : UInt8) : (u8s l).toArray.setIfInBounds k (.int .u8 x.toNat) = (u8s (l.set k x)).toArray := by
  simp [u8s, List.map_set]
theorem SumB.set {w wr : World} {E : Nat} {v : St} {L : List UInt8} (h : SumB w wr E v L) (k : Nat) (x : UInt8) : SumB w (wr.setCell ⟨E, k, none⟩ (.int .u8 x.toNat)) E v (L.set k x) := by
  have h2 := h.2.1
  refine ⟨⟨h.1.1.setCell (by show _ ≤ E; omega) _, by simp [World.setCell]; exact h.1.2.1, ?_, ?_⟩, h.2.1, ?_⟩
  · rw [heap_setCell_other _ _ _ _ (by show _ ≠ E; omega)]; exact h.1.2.2.1
  · rw [heap_setCell_other _ _ _ _ (by show _ ≠ E; omega)]; exact h.1.2.2.2
  · rw [heap_setCell_same wr _ k _ _ _ h.2.2, u8s_set]
theorem SumB.cell {w wr : World} {E : Nat} {v : St} {L : List UInt8} (h : SumB w wr E v L) (k : Nat) (hk : k < L.length) : wr.cell? ⟨E, k, none⟩ = some (.int .u8 (L.getD k 0).toNat) := by
  rw [cell_of_row wr _ k _ _ _ h.2.2, List.getElem?_toArray, u8s_get L k hk]
  simp [List.getElem?_eq_getElem hk]
theorem SumB.efree {w wr : World} {E : Nat} {v : St} {L : List UInt8} (h : SumB w wr E v L) (k : Nat) : wr.frozen? ⟨E, k, none⟩ = false := frozen_of_row wr _ k _ _ h.2.2
theorem splice_start (t : List UInt8) (n : Nat) (hn : t.length = n) (h : n ≤ 128) : splice (u8s (zr 128)) 0 (u8s t) = u8s (t ++ zr (128 - n)) := by
  subst hn
  unfold splice
  rw [List.take_zero, List.nil_append, u8s_append, u8s_length, Nat.zero_add]
  congr 1
  unfold u8s zr
  rw [← List.map_drop, List.drop_replicate]
/-- the eight bytes of the length, laid one by one -/
def lens (L : List UInt8) (sz bits : Nat) : Nat → List UInt8
  | 0 => L
  | i + 1 => (lens L sz bits i).set (sz - 1 - i) (UInt8.ofNat (bits / 2 ^ (8 * i) % 256))
theorem lens_length (L : List UInt8) (sz bits : Nat) : ∀ i, (lens L sz bits i).length = L.length
  | 0 => rfl
  | i + 1 => by simp [lens, lens_length L sz bits i]
theorem byte_cast (x k : Nat) : ((x : Int) / 2 ^ k % 256) = ((UInt8.ofNat (x / 2 ^ k % 256)).toNat : Int) := by
  have h : x / 2 ^ k % 256 < 256 := Nat.mod_lt _ (by decide)
  rw [UInt8.toNat_ofNat', Nat.mod_eq_of_lt h, Int.natCast_emod, Int.natCast_ediv, Int.natCast_pow]
  rfl
theorem SumB.call {w wr w' : World} {E : Nat} {v : St} {L : List UInt8} (h : SumB w wr E v L) (hb : Below wr.heap.size wr w') : SumB w w' E v L :=
  ⟨h.1.call hb, h.2.1, by rw [hb.block _ (block_lt h.2.2)]; exact h.2.2⟩
theorem SumB.put {w wr : World} {E : Nat} {v : St} {L : List UInt8} (h : SumB w wr E v L) (r : St) : SumB w (set8 wr (w.heap.size + 1) r) E r L := by
  have h2 := h.2.1
  refine ⟨h.1.put r, h.2.1, ?_⟩
  unfold set8
  rw [heap_setCell_other _ _ _ _ (by show _ ≠ w.heap.size + 1; omega), heap_setCell_other _ _ _ _ (by show _ ≠ w.heap.size + 1; omega), heap_setCell_other _ _ _ _ (by show _ ≠ w.heap.size + 1; omega), heap_setCell_other _ _ _ _ (by show _ ≠ w.heap.size + 1; omega), heap_setCell_other _ _ _ _ (by show _ ≠ w.heap.size + 1; omega), heap_setCell_other _ _ _ _ (by show _ ≠ w.heap.size + 1; omega), heap_setCell_other _ _ _ _ (by show _ ≠ w.heap.size + 1; omega), heap_setCell_other _ _ _ _ (by show _ ≠ w.heap.size + 1; omega)]
  exact h.2.2
theorem blk_length {L : List UInt8} {q : Nat} (h : 64 * q + 64 ≤ L.length) : (blk L q).length = 64 := by
  unfold blk
  rw [List.length_take, List.length_drop]
  omega
theorem SumB.conv {w wr : World} {E q : Nat} {v : St} {L : List UInt8} (h : SumB w wr E v L) (hq : 64 * q + 64 ≤ L.length) (c : Nat) :
    (convert 48 9 (.slice (some ⟨E, 64 * q, none⟩) 64 c)).run Tryd.prog wr = .ok (.string (bstr (blk L q))) wr := by
  refine conv_row _ Tryd.underlying48 Tryd.underlying5 Tryd.underlying9 (blk_length hq) fun i hi => ?_
  rw [cell_of_row wr E _ _ _ _ h.2.2, List.getElem?_toArray, u8s_get L _ (by omega), u8s_get _ i (by rw [blk_length hq]; exact hi)]
  have : (blk L q)[i]'(by rw [blk_length hq]; exact hi) = L[64 * q + i]'(by omega) := by
    unfold blk
    rw [List.getElem_take, List.getElem_drop]
  rw [this]
/-- .. and the array of what comes out -/
def SumC (w wr : World) (O : Nat) (_v : St) (L : List UInt8) : Prop := Below w.heap.size w wr ∧ w.heap.size + 1 ≤ O ∧ wr.heap[w.heap.size]? = some (.cells (u8s (List.replicate 32 0)).toArray 51 (0, 0)) ∧ wr.heap[O]? = some (.cells (u8s L).toArray 51 (0, 0))
theorem SumC.start {w wr : World} {E : Nat} {v : St} {L : List UInt8} (h : SumB w wr E v L) : SumC w (wr.alloc (.cells (u8s (List.replicate 32 0)).toArray 51)) wr.heap.size v (List.replicate 32 0) := by
  have h2 := h.1.2.1
  refine ⟨bw_alloc h.1.1 _, by omega, ?_, heap_alloc_new _ _⟩
  rw [Below.heap_alloc _ _ _ (by omega)]; exact h.1.2.2.1
def outB (x : Int) : List UInt8 := [UInt8.ofNat (x / 16777216).toNat, UInt8.ofNat (x / 65536 % 256).toNat, UInt8.ofNat (x / 256 % 256).toNat, UInt8.ofNat (x % 256).toNat]
/-- the bytes that come out, laid four by four -/
def outs (u : List Int) : Nat → List UInt8
  | 0 => List.replicate 32 0
  | i + 1 => ((((outs u i).set (4 * i) (UInt8.ofNat (u.getD i 0 / 16777216).toNat)).set (4 * i + 1) (UInt8.ofNat (u.getD i 0 / 65536 % 256).toNat)).set (4 * i + 2) (UInt8.ofNat (u.getD i 0 / 256 % 256).toNat)).set (4 * i + 3) (UInt8.ofNat (u.getD i 0 % 256).toNat)
theorem outs_length (u : List Int) : ∀ i, (outs u i).length = 32
  | 0 => rfl
  | i + 1 => by simp only [outs, List.length_set, outs_length u i]
def St.out (s : St) : List UInt8 := (s.l.map outB).flatten
theorem outs_all (s : St) : outs s.l 8 = s.out := by kernel_rfl
theorem byte_out (y : Int) : y % 256 = ((UInt8.ofNat (y % 256).toNat).toNat : Int) := by
  have h : (y % 256).toNat < 256 := by omega
  rw [UInt8.toNat_ofNat', Nat.mod_eq_of_lt h]
  omega
theorem SumC.set {w wr : World} {O : Nat} {v : St} {L : List UInt8} (h : SumC w wr O v L) (k : Nat) (x : UInt8) : SumC w (wr.setCell ⟨O, k, none⟩ (.int .u8 x.toNat)) O v (L.set k x) := by
  have h2 := h.2.1
  refine ⟨h.1.setCell (by show _ ≤ O; omega) _, h2, ?_, ?_⟩
  · rw [heap_setCell_other _ _ _ _ (by show _ ≠ O; omega)]; exact h.2.2.1
  · rw [heap_setCell_same wr _ k _ _ _ h.2.2.2, u8s_set]
theorem SumC.cell {w wr : World} {O : Nat} {v : St} {L : List UInt8} (h : SumC w wr O v L) (k : Nat) (hk : k < L.length) : wr.cell? ⟨O, k, none⟩ = some (.int .u8 (L.getD k 0).toNat) := by
  rw [cell_of_row wr _ k _ _ _ h.2.2.2, List.getElem?_toArray, u8s_get L k hk]
  simp [List.getElem?_eq_getElem hk]
theorem SumC.free {w wr : World} {O : Nat} {v : St} {L : List UInt8} (h : SumC w wr O v L) (k : Nat) : wr.frozen? ⟨O, k, none⟩ = false := frozen_of_row wr _ k _ _ h.2.2.2
theorem index8 (u : St) (i : Nat) (h : i < 8) (wx : World) :
    (Instr.index 117 (.agg #[.int .u32 u.a, .int .u32 u.b, .int .u32 u.c, .int .u32 u.d, .int .u32 u.e, .int .u32 u.f, .int .u32 u.g, .int .u32 u.h]) (.int .i64 i)).run Tryd.prog wx = .ok (.int .u32 (u.l.getD i 0)) wx := by
  have : i = 0 ∨ i = 1 ∨ i = 2 ∨ i = 3 ∨ i = 4 ∨ i = 5 ∨ i = 6 ∨ i = 7 := by omega
  rcases this with rfl | rfl | rfl | rfl | rfl | rfl | rfl | rfl <;> (show _ = _; kernel_rfl)
theorem byte_top {x : Int} (h0 : 0 ≤ x) (h1 : x ≤ 4294967295) : x / 16777216 = ((UInt8.ofNat (x / 16777216).toNat).toNat : Int) := by
  have h : (x / 16777216).toNat < 256 := by omega
  rw [UInt8.toNat_ofNat', Nat.mod_eq_of_lt h]
  omega
theorem extract_tail (s : ByteArray) (a : Nat) : (s.extract a s.size).data.toList = s.data.toList.drop a := by
  rw [ByteArray.data_extract, Array.toList_extract]
  unfold List.extract
  rw [List.take_of_length_le]
  rw [List.length_drop]
  exact Nat.le_refl _
/-- what stands at the end: the rest, 0x80, zeros, the length -/
def shaEnd (l : List UInt8) (m sz : Nat) : List UInt8 := lens ((l.drop (64 * m) ++ zr (128 - (l.length - 64 * m))).set (l.length - 64 * m) 128) sz (l.length * 8) 8
/-- SHA-256 -/
def sha (l : List UInt8) : List UInt8 :=
  let m := l.length / 64
  let sz := if 56 ≤ l.length % 64 then 128 else 64
  (runFrom (runFrom shaInit l m) (shaEnd l m sz) (sz / 64)).out
theorem sha_eq {l : List UInt8} {m n sz : Nat} (h1 : 64 * m ≤ l.length) (h2 : n = l.length - 64 * m) (h3 : n < 64) (h4 : sz = if 56 ≤ n then 128 else 64) :
    sha l = (runFrom (runFrom shaInit l m) (lens ((l.drop (64 * m) ++ zr (128 - n)).set n 128) sz (l.length * 8) 8) (sz / 64)).out := by
  have e1 : l.length / 64 = m := by omega
  have e2 : l.length % 64 = n := by omega
  unfold sha shaEnd
  simp only [e1, e2]
  rw [← h4, ← h2]
set_option maxHeartbeats 1000000 in
set_option maxRecDepth 100000 in
theorem sum_any (s : ByteArray) (w : World) (hs : s.size ≤ 140737488355328) (hR : RoundsAt w) :
    Calls Tryd.prog 85 #[.string s] w fun e w' => e = .returned (.agg (u8s (sha s.data.toList)).toArray) ∧ Below w.heap.size w w' := by
  have HR := Lib.hid hR
  clear hR
  go_enter Tryd.func85, Tryd.ntmps85
  go_wp2
  go_loopw [4] (fun sl wr => ∃ (m : Nat) (v : St), 64 * m ≤ s.size ∧ sl = .int .i64 (64 * (m : Int)) ∧ Hid (v = runFrom shaInit s.data.toList m) ∧ Hid (SumA w wr v)) (fun i _ => s.size - (intOf i).toNat)
  case atStart => exact ⟨0, _, by omega, rfl, rfl, sumA_start w⟩
  case round =>
    obtain ⟨m, v, hm, rfl, hv, hA⟩ := hrel
    by_cases hlt : 64 * m + 64 ≤ s.size
    · obtain ⟨c0, c1, c2, c3, c4, c5, c6, c7⟩ := hA.out.cells
      have b0 : 64 ≤ (s.size : Int) - 64 * (m : Int) := by omega
      have b1 : 0 ≤ 64 * (m : Int) := by omega
      have b2 : 64 * (m : Int) + 64 ≤ s.size := by omega
      have b3 : 64 * (m : Int) ≤ 64 * (m : Int) + 64 := by omega
      have e1 : IntKind.i64.wrap (64 * (m : Int) + 64) = 64 * (m : Int) + 64 := IntWalk.i64_in _ (by omega)
      have t1 : (64 * (m : Int)).toNat = 64 * m := by omega
      have t2 : (64 * (m : Int) + 64).toNat = 64 * m + 64 := by omega
      have HSZ := Lib.hid (extract_64 hlt)
      have HRD : Hid (RoundsAt wr.drew) := show RoundsAt wr.drew from HR.out.below hA.out.1.drew HR.out.1
      have HOK : Hid (St.ok ⟨v.a, v.b, v.c, v.d, v.e, v.f, v.g, v.h⟩) := show St.ok v by rw [hv.out]; exact runFrom_ok shaInit_ok _ _
      go_wp2
      go_region_with (go_at_call 95; refine (block_ex v _ _ (by exact HSZ.out) (by exact HRD.out) (by exact HOK.out)).mono ?_; rintro e w' ⟨r, hr, rfl, hb⟩; have HA2 := Lib.hid (hA.out.drew.call hb); clear hb; obtain ⟨d0, d1, d2, d3, d4, d5, d6, d7⟩ := HA2.out.cells; have g0 := HA2.out.free 0; have g1 := HA2.out.free 1; have g2 := HA2.out.free 2; have g3 := HA2.out.free 3; have g4 := HA2.out.free 4; have g5 := HA2.out.free 5; have g6 := HA2.out.free 6; have g7 := HA2.out.free 7)
      go_wp2
      go_roundw
      case rel => exact ⟨m + 1, r, by omega, by go_num, show _ = _ by rw [hr.out, hv.out, extract_str64]; rfl, HA2.out.put r⟩
      case measure => simp [intOf]; omega
    · obtain ⟨n, hn⟩ : ∃ n, n = s.size - 64 * m := ⟨_, rfl⟩
      have hn2 : n < 64 := by omega
      have b0 : (s.size : Int) - 64 * (m : Int) < 64 := by omega
      have b1 : 0 ≤ 64 * (m : Int) := by omega
      have b2 : 64 * (m : Int) ≤ s.size := by omega
      have t1 : (64 * (m : Int)).toNat = 64 * m := by omega
      go_wp2
      have hB := Lib.hid (SumB.start hA.out)
      have hinf : (Tryd.prog.info? 5).map (·.size) = some 1 := by kernel_rfl
      have hsz : (s.extract (64 * m) s.size).size = n := by rw [ByteArray.size_extract]; omega
      have hsz1 : (s.extract (64 * m) s.size).size ≤ 128 := by omega
      have hfit : 0 + (s.extract (64 * m) s.size).size ≤ (u8s (zr 128)).length := by rw [u8s_length, zr_length]; omega
      have HSZ := Lib.hid hsz
      have HN := Lib.hid hn
      clear hsz hA hn
      generalize wr.alloc (.cells Tryd.zeroCells119 119) = w2 at *
      generalize wr.heap.size = E at *
      have hB1 := Lib.hid hB.out.drew
      go_region_law (refine step_copy_str rfl (.tmp 29) (.tmp 32) 48 9 rfl 5 Tryd.underlying48 hinf _ _ _ (s.extract (64 * m) s.size) rfl rfl E 0 _ 119 hB1.out.2.2 hsz1 (fun _ => rfl) hfit ?_)
      have hTL : (s.data.toList.drop (64 * m)).length = n := by rw [List.length_drop, HN.out]; rfl
      rw [← HN.out, List.take_of_length_le (by rw [hTL]; exact Nat.le_refl _), splice_start _ n hTL (by omega)]
      have hB2 := Lib.hid (hB1.out.row (s.data.toList.drop (64 * m) ++ zr (128 - n)))
      have hLL : (s.data.toList.drop (64 * m) ++ zr (128 - n)).length = 128 := by rw [List.length_append, hTL, zr_length]; omega
      have hc := hB2.out.cell n (by omega)
      have hf := hB2.out.efree n
      have HTL := Lib.hid hTL
      clear hTL hLL hB hB1 hfit
      generalize w2.drew.setRow E _ = w3 at *
      have n1 : (n : Int) < 128 := by omega
      by_cases h56 : 56 ≤ n
      · have hd56 : decide ((56 : Int) ≤ (n : Int)) = true := by simp; omega
        go_wp2
        have hB3 := Lib.hid (hB2.out.set n 128)
        have hL3 : ((s.data.toList.drop (64 * m) ++ zr (128 - n)).set n 128).length = 128 := by rw [List.length_set, List.length_append, HTL.out, zr_length]; omega
        obtain ⟨L, hL0⟩ : ∃ L, L = (s.data.toList.drop (64 * m) ++ zr (128 - n)).set n 128 := ⟨_, rfl⟩
        rw [← hL0] at hB3 hL3
        have HL := Lib.hid hL0
        clear hL0
        clear hB2 hc hf
        go_loopw [42] (fun sl wr => ∃ i : Nat, i ≤ 8 ∧ sl = .int .i64 i ∧ Hid (SumB w wr E v (lens L 128 (s.size * 8) i))) (fun i _ => 8 - (intOf i).toNat)
        case atStart => exact ⟨0, by omega, rfl, hB3.out⟩
        case round =>
          clear hB3
          obtain ⟨i, hi, rfl, hB3⟩ := hrel
          by_cases hlt8 : i < 8
          · have hc := hB3.out.cell (128 - 1 - i) (by rw [lens_length, hL3]; omega)
            have hf := hB3.out.efree (128 - 1 - i)
            have k0 : (0 : Int) ≤ 128 - 1 - (i : Int) := by omega
            have k1 : 128 - 1 - (i : Int) < 128 := by omega
            have k2 : (128 - 1 - (i : Int)).toNat = 128 - 1 - i := by omega
            go_wp2
            go_roundw
            case rel => exact ⟨i + 1, by omega, by go_num, by rw [show ((s.size : Int) * 8) = ((s.size * 8 : Nat) : Int) by push_cast; rfl, byte_cast]; exact hB3.out.set _ _⟩
            case measure => simp [intOf]; omega
          · obtain rfl : i = 8 := by omega
            simp only [show ((8 : Nat) : Int) = 8 from rfl]
            have hMl : (lens L 128 (s.size * 8) 8).length = 128 := by rw [lens_length, hL3]
            clear hL3
            obtain ⟨M, hM0⟩ : ∃ M, M = lens L 128 (s.size * 8) 8 := ⟨_, rfl⟩
            rw [← hM0] at hB3 hMl
            have HM := Lib.hid hM0
            clear hM0
            go_wp2
            have hB4 := hB3
            clear hB3
            go_loopw [10] (fun sl wr => ∃ (q : Nat) (u : St), 64 * q ≤ 128 ∧ sl = .int .i64 (64 * (q : Int)) ∧ Hid (u = runFrom v M q) ∧ Hid (SumB w wr E u M)) (fun i _ => 128 - (intOf i).toNat)
            case atStart => exact ⟨0, v, by omega, rfl, rfl, hB4.out⟩
            case round =>
              clear hB4
              obtain ⟨q, u, hq, rfl, hu, hB⟩ := hrel
              by_cases hlq : 64 * q + 64 ≤ 128
              · obtain ⟨c0, c1, c2, c3, c4, c5, c6, c7⟩ := hB.out.1.cells
                have b0 : 64 * (q : Int) < 128 := by omega
                have b1 : 0 ≤ 64 * (q : Int) := by omega
                have b2 : 64 * (q : Int) + 64 ≤ 128 := by omega
                have b3 : 64 * (q : Int) ≤ 64 * (q : Int) + 64 := by omega
                have b4 : 0 ≤ 64 * (q : Int) + 64 := by omega
                have e1 : IntKind.i64.wrap (64 * (q : Int) + 64) = 64 * (q : Int) + 64 := IntWalk.i64_in _ (by omega)
                have t1 : (64 * (q : Int)).toNat = 64 * q := by omega
                have t2 : (64 * (q : Int) + 64).toNat = 64 * q + 64 := by omega
                have b5 : ¬ (128 = 64 * q) := by omega
                have b6 : 64 * q + 64 - 64 * q = 64 := by omega
                have HSZ2 : Hid ((bstr (blk M q)).size = 64) := show _ = _ by rw [bstr_size]; exact blk_length (by omega)
                have HRD : Hid (RoundsAt wr.drew) := show RoundsAt wr.drew from HR.out.below hB.out.1.1.drew HR.out.1
                have HOK : Hid (St.ok u) := show St.ok u by rw [hu.out]; exact runFrom_ok (by rw [hv.out]; exact runFrom_ok shaInit_ok _ _) _ _
                have hcv := hB.out.drew.conv (q := q) (by omega) (128 - 64 * q)
                go_wp2
                go_region_with (go_at_call 95; refine (block_ex u _ _ (by exact HSZ2.out) (by exact HRD.out) (by exact HOK.out)).mono ?_; rintro e w' ⟨r, hr, rfl, hb⟩; have HB2 := Lib.hid (hB.out.drew.call hb); clear hb; obtain ⟨d0, d1, d2, d3, d4, d5, d6, d7⟩ := HB2.out.1.cells; have g0 := HB2.out.1.free 0; have g1 := HB2.out.1.free 1; have g2 := HB2.out.1.free 2; have g3 := HB2.out.1.free 3; have g4 := HB2.out.1.free 4; have g5 := HB2.out.1.free 5; have g6 := HB2.out.1.free 6; have g7 := HB2.out.1.free 7)
                all_goals
                  go_wp2
                  go_roundw
                  case rel => exact ⟨q + 1, r, by omega, by go_num, show _ = _ by rw [hr.out, hu.out, bstr_toList]; rfl, HB2.out.put r⟩
                  case measure => simp [intOf]; omega
              · obtain rfl : q = 2 := by omega
                simp only [show 64 * ((2 : Nat) : Int) = 128 from rfl]
                have hC := Lib.hid (SumC.start hB.out)
                obtain ⟨c0, c1, c2, c3, c4, c5, c6, c7⟩ := hB.out.1.cells
                have hz1 : w.heap.size + 1 < wr.heap.size := by have := hB.out.1.2.1; omega
                have hz2 : ¬ (w.heap.size + 1 = wr.heap.size) := by omega
                clear hB
                go_wp2
                have HU2 : Hid (u.ok) := show u.ok by rw [hu.out]; exact runFrom_ok (by rw [hv.out]; exact runFrom_ok shaInit_ok _ _) _ _
                clear c0 c1 c2 c3 c4 c5 c6 c7 hz1 hz2
                generalize wr.heap.size = O at *
                go_loopw [69] (fun sl wr => ∃ i : Nat, i ≤ 8 ∧ sl = .int .i64 i ∧ Hid (SumC w wr O u (outs u.l i))) (fun i _ => 8 - (intOf i).toNat)
                case atStart => exact ⟨0, by omega, rfl, hC.out⟩
                case round =>
                  clear hC
                  obtain ⟨i, hi, rfl, hC⟩ := hrel
                  by_cases hlt8 : i < 8
                  · have hix := index8 u i hlt8
                    obtain ⟨x, hx⟩ : ∃ x, x = u.l.getD i 0 := ⟨_, rfl⟩
                    rw [← hx] at hix
                    have HX := Lib.hid hx
                    have hxr : 0 ≤ x ∧ x ≤ 4294967295 := by rw [hx]; exact HU2.out i
                    obtain ⟨x0, x1⟩ := hxr
                    clear hx
                    have hl := outs_length u.l i
                    have k0 := hC.out.cell (4 * i) (by omega)
                    have k1 := hC.out.cell (4 * i + 1) (by omega)
                    have k2 := hC.out.cell (4 * i + 2) (by omega)
                    have k3 := hC.out.cell (4 * i + 3) (by omega)
                    have f0 := hC.out.free (4 * i)
                    have f1 := hC.out.free (4 * i + 1)
                    have f2 := hC.out.free (4 * i + 2)
                    have f3 := hC.out.free (4 * i + 3)
                    have i0 : (0 : Int) ≤ 4 * (i : Int) := by omega
                    have i1 : 4 * (i : Int) < 32 := by omega
                    have i2 : 4 * (i : Int) + 1 < 32 := by omega
                    have i3 : 4 * (i : Int) + 2 < 32 := by omega
                    have i4 : 4 * (i : Int) + 3 < 32 := by omega
                    clear hl
                    go_wp2
                    go_roundw
                    case rel => exact ⟨i + 1, by omega, by go_num, by rw [byte_top x0 x1, byte_out (x / 65536), byte_out (x / 256), byte_out x]; have := HX.out; subst this; exact (((hC.out.set _ _).set _ _).set _ _).set _ _⟩
                    case measure => simp [intOf]; omega
                  · obtain rfl : i = 8 := by omega
                    have hCe : Hid (SumC w wr O u (St.out u)) := show SumC w wr O u (St.out u) by rw [← outs_all]; exact hC.out
                    have hol : (St.out u).length = 32 := by rw [← outs_all]; exact outs_length _ _
                    generalize hou : St.out u = L2 at *
                    have HOU := Lib.hid hou
                    clear hou hC
                    have hi1 : (Tryd.prog.info? 51).map (·.size) = some (u8s L2).length := by rw [u8s_length, hol]; kernel_rfl
                    have hi2 : (Tryd.prog.info? 51).map (·.size) = some (u8s L2).toArray.size := by rw [List.size_toArray]; exact hi1
                    have hr1 : wr.rangeAt O 0 (u8s L2) := range_row hCe.out.2.2.2 (fun j v hv => by rw [Nat.zero_add]; exact hv)
                    have ht1 : wr.there w.heap.size 0 (u8s L2).toArray.size := there_row hCe.out.2.2.1 (by simp [u8s_length, hol])
                    go_wp2_with (first | (with_reducible refine wpList_load_mid rfl 51 (.tmp 11) rfl O 0 rfl (u8s L2) _ hr1 Tryd.underlying51 rfl hi1 ?_) | (with_reducible refine wpList_store_mid rfl 51 (.tmp 2) (.tmp 100) rfl w.heap.size 0 (u8s L2).toArray rfl rfl ht1 hi2 (all_oneCell_toArray (u8s_one _)) ?_))
                    have hg := heap_setCells_row (u8s L2) (u8s (List.replicate 32 0)) 0 wr hCe.out.2.2.1 (by rw [u8s_length, hol, u8s_length, List.length_replicate]; decide)
                    rw [splice_all _ _ (by rw [u8s_length, hol, u8s_length, List.length_replicate])] at hg
                    have hbl := setCells_below (Nat.le_refl w.heap.size) (u8s L2) 0 wr hCe.out.1
                    exact bodyPost_ret (v := .agg (u8s L2).toArray) (results_cell_row rfl _ _ w.heap.size _ _ _ _ rfl hg Tryd.underlying51 rfl hi2) rfl ⟨by rw [← HOU.out, sha_eq (m := m) (n := n) (sz := 128) hm (HN.out) hn2 (if_pos h56).symm, hu.out, hv.out, HM.out, HL.out]; rfl, hbl⟩
      · have h56' : n < 56 := by omega
        have hd56 : decide ((56 : Int) ≤ (n : Int)) = false := by simp; omega
        clear h56
        go_wp2
        have hB3 := Lib.hid (hB2.out.set n 128)
        have hL3 : ((s.data.toList.drop (64 * m) ++ zr (128 - n)).set n 128).length = 128 := by rw [List.length_set, List.length_append, HTL.out, zr_length]; omega
        obtain ⟨L, hL0⟩ : ∃ L, L = (s.data.toList.drop (64 * m) ++ zr (128 - n)).set n 128 := ⟨_, rfl⟩
        rw [← hL0] at hB3 hL3
        have HL := Lib.hid hL0
        clear hL0
        clear hB2 hc hf
        go_loopw [42] (fun sl wr => ∃ i : Nat, i ≤ 8 ∧ sl = .int .i64 i ∧ Hid (SumB w wr E v (lens L 64 (s.size * 8) i))) (fun i _ => 8 - (intOf i).toNat)
        case atStart => exact ⟨0, by omega, rfl, hB3.out⟩
        case round =>
          clear hB3
          obtain ⟨i, hi, rfl, hB3⟩ := hrel
          by_cases hlt8 : i < 8
          · have hc := hB3.out.cell (64 - 1 - i) (by rw [lens_length, hL3]; omega)
            have hf := hB3.out.efree (64 - 1 - i)
            have k0 : (0 : Int) ≤ 64 - 1 - (i : Int) := by omega
            have k1 : 64 - 1 - (i : Int) < 128 := by omega
            have k2 : (64 - 1 - (i : Int)).toNat = 64 - 1 - i := by omega
            go_wp2
            go_roundw
            case rel => exact ⟨i + 1, by omega, by go_num, by rw [show ((s.size : Int) * 8) = ((s.size * 8 : Nat) : Int) by push_cast; rfl, byte_cast]; exact hB3.out.set _ _⟩
            case measure => simp [intOf]; omega
          · obtain rfl : i = 8 := by omega
            simp only [show ((8 : Nat) : Int) = 8 from rfl]
            have hMl : (lens L 64 (s.size * 8) 8).length = 128 := by rw [lens_length, hL3]
            clear hL3
            obtain ⟨M, hM0⟩ : ∃ M, M = lens L 64 (s.size * 8) 8 := ⟨_, rfl⟩
            rw [← hM0] at hB3 hMl
            have HM := Lib.hid hM0
            clear hM0
            go_wp2
            have hB4 := hB3
            clear hB3
            go_loopw [10] (fun sl wr => ∃ (q : Nat) (u : St), 64 * q ≤ 64 ∧ sl = .int .i64 (64 * (q : Int)) ∧ Hid (u = runFrom v M q) ∧ Hid (SumB w wr E u M)) (fun i _ => 64 - (intOf i).toNat)
            case atStart => exact ⟨0, v, by omega, rfl, rfl, hB4.out⟩
            case round =>
              clear hB4
              obtain ⟨q, u, hq, rfl, hu, hB⟩ := hrel
              by_cases hlq : 64 * q + 64 ≤ 64
              · obtain ⟨c0, c1, c2, c3, c4, c5, c6, c7⟩ := hB.out.1.cells
                have b0 : 64 * (q : Int) < 64 := by omega
                have b1 : 0 ≤ 64 * (q : Int) := by omega
                have b2 : 64 * (q : Int) + 64 ≤ 128 := by omega
                have b3 : 64 * (q : Int) ≤ 64 * (q : Int) + 64 := by omega
                have b4 : 0 ≤ 64 * (q : Int) + 64 := by omega
                have e1 : IntKind.i64.wrap (64 * (q : Int) + 64) = 64 * (q : Int) + 64 := IntWalk.i64_in _ (by omega)
                have t1 : (64 * (q : Int)).toNat = 64 * q := by omega
                have t2 : (64 * (q : Int) + 64).toNat = 64 * q + 64 := by omega
                have b5 : ¬ (128 = 64 * q) := by omega
                have b6 : 64 * q + 64 - 64 * q = 64 := by omega
                have HSZ2 : Hid ((bstr (blk M q)).size = 64) := show _ = _ by rw [bstr_size]; exact blk_length (by omega)
                have HRD : Hid (RoundsAt wr.drew) := show RoundsAt wr.drew from HR.out.below hB.out.1.1.drew HR.out.1
                have HOK : Hid (St.ok u) := show St.ok u by rw [hu.out]; exact runFrom_ok (by rw [hv.out]; exact runFrom_ok shaInit_ok _ _) _ _
                have hcv := hB.out.drew.conv (q := q) (by omega) (128 - 64 * q)
                go_wp2
                go_region_with (go_at_call 95; refine (block_ex u _ _ (by exact HSZ2.out) (by exact HRD.out) (by exact HOK.out)).mono ?_; rintro e w' ⟨r, hr, rfl, hb⟩; have HB2 := Lib.hid (hB.out.drew.call hb); clear hb; obtain ⟨d0, d1, d2, d3, d4, d5, d6, d7⟩ := HB2.out.1.cells; have g0 := HB2.out.1.free 0; have g1 := HB2.out.1.free 1; have g2 := HB2.out.1.free 2; have g3 := HB2.out.1.free 3; have g4 := HB2.out.1.free 4; have g5 := HB2.out.1.free 5; have g6 := HB2.out.1.free 6; have g7 := HB2.out.1.free 7)
                all_goals
                  go_wp2
                  go_roundw
                  case rel => exact ⟨q + 1, r, by omega, by go_num, show _ = _ by rw [hr.out, hu.out, bstr_toList]; rfl, HB2.out.put r⟩
                  case measure => simp [intOf]; omega
              · obtain rfl : q = 1 := by omega
                simp only [show 64 * ((1 : Nat) : Int) = 64 from rfl]
                have hC := Lib.hid (SumC.start hB.out)
                obtain ⟨c0, c1, c2, c3, c4, c5, c6, c7⟩ := hB.out.1.cells
                have hz1 : w.heap.size + 1 < wr.heap.size := by have := hB.out.1.2.1; omega
                have hz2 : ¬ (w.heap.size + 1 = wr.heap.size) := by omega
                clear hB
                go_wp2
                have HU2 : Hid (u.ok) := show u.ok by rw [hu.out]; exact runFrom_ok (by rw [hv.out]; exact runFrom_ok shaInit_ok _ _) _ _
                clear c0 c1 c2 c3 c4 c5 c6 c7 hz1 hz2
                generalize wr.heap.size = O at *
                go_loopw [69] (fun sl wr => ∃ i : Nat, i ≤ 8 ∧ sl = .int .i64 i ∧ Hid (SumC w wr O u (outs u.l i))) (fun i _ => 8 - (intOf i).toNat)
                case atStart => exact ⟨0, by omega, rfl, hC.out⟩
                case round =>
                  clear hC
                  obtain ⟨i, hi, rfl, hC⟩ := hrel
                  by_cases hlt8 : i < 8
                  · have hix := index8 u i hlt8
                    obtain ⟨x, hx⟩ : ∃ x, x = u.l.getD i 0 := ⟨_, rfl⟩
                    rw [← hx] at hix
                    have HX := Lib.hid hx
                    have hxr : 0 ≤ x ∧ x ≤ 4294967295 := by rw [hx]; exact HU2.out i
                    obtain ⟨x0, x1⟩ := hxr
                    clear hx
                    have hl := outs_length u.l i
                    have k0 := hC.out.cell (4 * i) (by omega)
                    have k1 := hC.out.cell (4 * i + 1) (by omega)
                    have k2 := hC.out.cell (4 * i + 2) (by omega)
                    have k3 := hC.out.cell (4 * i + 3) (by omega)
                    have f0 := hC.out.free (4 * i)
                    have f1 := hC.out.free (4 * i + 1)
                    have f2 := hC.out.free (4 * i + 2)
                    have f3 := hC.out.free (4 * i + 3)
                    have i0 : (0 : Int) ≤ 4 * (i : Int) := by omega
                    have i1 : 4 * (i : Int) < 32 := by omega
                    have i2 : 4 * (i : Int) + 1 < 32 := by omega
                    have i3 : 4 * (i : Int) + 2 < 32 := by omega
                    have i4 : 4 * (i : Int) + 3 < 32 := by omega
                    clear hl
                    go_wp2
                    go_roundw
                    case rel => exact ⟨i + 1, by omega, by go_num, by rw [byte_top x0 x1, byte_out (x / 65536), byte_out (x / 256), byte_out x]; have := HX.out; subst this; exact (((hC.out.set _ _).set _ _).set _ _).set _ _⟩
                    case measure => simp [intOf]; omega
                  · obtain rfl : i = 8 := by omega
                    have hCe : Hid (SumC w wr O u (St.out u)) := show SumC w wr O u (St.out u) by rw [← outs_all]; exact hC.out
                    have hol : (St.out u).length = 32 := by rw [← outs_all]; exact outs_length _ _
                    generalize hou : St.out u = L2 at *
                    have HOU := Lib.hid hou
                    clear hou hC
                    have hi1 : (Tryd.prog.info? 51).map (·.size) = some (u8s L2).length := by rw [u8s_length, hol]; kernel_rfl
                    have hi2 : (Tryd.prog.info? 51).map (·.size) = some (u8s L2).toArray.size := by rw [List.size_toArray]; exact hi1
                    have hr1 : wr.rangeAt O 0 (u8s L2) := range_row hCe.out.2.2.2 (fun j v hv => by rw [Nat.zero_add]; exact hv)
                    have ht1 : wr.there w.heap.size 0 (u8s L2).toArray.size := there_row hCe.out.2.2.1 (by simp [u8s_length, hol])
                    go_wp2_with (first | (with_reducible refine wpList_load_mid rfl 51 (.tmp 11) rfl O 0 rfl (u8s L2) _ hr1 Tryd.underlying51 rfl hi1 ?_) | (with_reducible refine wpList_store_mid rfl 51 (.tmp 2) (.tmp 100) rfl w.heap.size 0 (u8s L2).toArray rfl rfl ht1 hi2 (all_oneCell_toArray (u8s_one _)) ?_))
                    have hg := heap_setCells_row (u8s L2) (u8s (List.replicate 32 0)) 0 wr hCe.out.2.2.1 (by rw [u8s_length, hol, u8s_length, List.length_replicate]; decide)
                    rw [splice_all _ _ (by rw [u8s_length, hol, u8s_length, List.length_replicate])] at hg
                    have hbl := setCells_below (Nat.le_refl w.heap.size) (u8s L2) 0 wr hCe.out.1
                    exact bodyPost_ret (v := .agg (u8s L2).toArray) (results_cell_row rfl _ _ w.heap.size _ _ _ _ rfl hg Tryd.underlying51 rfl hi2) rfl ⟨by rw [← HOU.out, sha_eq (m := m) (n := n) (sz := 64) hm (HN.out) hn2 (if_neg (by omega)).symm, hu.out, hv.out, HM.out, HL.out]; rfl, hbl⟩
end Go.Proofs.YtbeooeihedhabaaDoor
