/- digest.turn, digest.block: what the calls do. -/
import Derived.Test.YtbeooeihedhabaaDoorProg
import Derived.Test.YtbeooeihedhabaaDoorBase
import Derived.Deep.QuietTactic
import Derived.Deep.LoopGhost
import Derived.BigQuiet
import Derived.StillTailTactics
import Derived.Deep.RegionHeld3
namespace Go.Proofs.YtbeooeihedhabaaDoor
open Go.RowKit
set_option maxHeartbeats 400000 in
theorem turn_any (x n : Int) (w : World) (_h0 : 0 ≤ x) (_h1 : x ≤ 4294967295) (hn : 1 ≤ n) (hn2 : n ≤ 31) :
    Calls Tryd.prog 96 #[.int .u32 x, .int .i64 n] w fun e w' => e = .returned (.int .u32 (rotI x n)) ∧ ∃ m, w' = w.drewN m := by
  obtain ⟨n, rfl⟩ := Int.eq_ofNat_of_zero_le (show 0 ≤ n by omega)
  have hA : (0 : Int) ≤ n := by omega
  have hB : (0 : Int) ≤ 32 - n := by omega
  go_enter Tryd.func96, Tryd.ntmps96
  go_wp2
  go_quiet (fail)
  go_wp2
  go_ret
  exact ⟨rfl, _, rfl⟩
/-- what block's memory holds: the state that came in, the words; below it nothing has turned -/
def BlkA (w wr : World) (S W : List Int) : Prop :=
  Below w.heap.size w wr ∧ w.heap.size + 3 ≤ wr.heap.size ∧ wr.heap[w.heap.size]? = some (.cells (u32v S).toArray 117 (0, 0)) ∧
  wr.heap[w.heap.size + 1]? = some (.cells (u32v (zs 8)).toArray 117 (0, 0)) ∧ wr.heap[w.heap.size + 2]? = some (.cells (u32v W).toArray 120 (0, 0))
theorem blkA_start (w : World) (s0 s1 s2 s3 s4 s5 s6 s7 : Int) : BlkA w (((w.alloc (.cells (u32v [s0, s1, s2, s3, s4, s5, s6, s7]).toArray 117)).alloc (.cells (u32v (zs 8)).toArray 117)).alloc (.cells (u32v (zs 64)).toArray 120)) [s0, s1, s2, s3, s4, s5, s6, s7] (zs 64) := by
  refine ⟨bw_alloc (bw_alloc (bw_alloc (Below.refl _ _) _) _) _, by simp, ?_, ?_, ?_⟩
  · rw [Below.heap_alloc _ _ w.heap.size (by simp; omega), Below.heap_alloc _ _ w.heap.size (by simp), heap_alloc_new]
  · rw [Below.heap_alloc _ _ (w.heap.size + 1) (by simp)]
    have := heap_alloc_new (w.alloc (.cells (u32v [s0, s1, s2, s3, s4, s5, s6, s7]).toArray 117)) (.cells (u32v (zs 8)).toArray 117)
    simpa using this
  · have := heap_alloc_new ((w.alloc (.cells (u32v [s0, s1, s2, s3, s4, s5, s6, s7]).toArray 117)).alloc (.cells (u32v (zs 8)).toArray 117)) (.cells (u32v (zs 64)).toArray 120)
    simpa using this
theorem BlkA.drewN {w wr : World} {S W : List Int} (h : BlkA w wr S W) (n : Nat) : BlkA w (wr.drewN n) S W := ⟨bw_drewN h.1 n, h.2.1, h.2.2.1, h.2.2.2.1, h.2.2.2.2⟩
theorem BlkA.drew {w wr : World} {S W : List Int} (h : BlkA w wr S W) : BlkA w wr.drew S W := ⟨h.1.drew, h.2.1, h.2.2.1, h.2.2.2.1, h.2.2.2.2⟩
theorem BlkA.wcell {w wr : World} {S W : List Int} (h : BlkA w wr S W) (k : Nat) (hk : k < W.length) : wr.cell? ⟨w.heap.size + 2, k, none⟩ = some (.int .u32 (W.getD k 0)) := by
  rw [cell_of_row wr _ k _ _ _ h.2.2.2.2, u32v_at W k hk]
theorem BlkA.wfree {w wr : World} {S W : List Int} (h : BlkA w wr S W) (k : Nat) : wr.frozen? ⟨w.heap.size + 2, k, none⟩ = false := frozen_of_row wr _ k _ _ h.2.2.2.2
theorem BlkA.scell {w wr : World} {S W : List Int} (h : BlkA w wr S W) (k : Nat) (hk : k < S.length) : wr.cell? ⟨w.heap.size, k, none⟩ = some (.int .u32 (S.getD k 0)) := by
  rw [cell_of_row wr _ k _ _ _ h.2.2.1, u32v_at S k hk]
theorem BlkA.sfree {w wr : World} {S W : List Int} (h : BlkA w wr S W) (k : Nat) : wr.frozen? ⟨w.heap.size, k, none⟩ = false := frozen_of_row wr _ k _ _ h.2.2.1
theorem BlkA.setW {w wr : World} {S W : List Int} (h : BlkA w wr S W) (k : Nat) (x : Int) : BlkA w (wr.setCell ⟨w.heap.size + 2, k, none⟩ (.int .u32 x)) S (W.set k x) := by
  refine ⟨h.1.setCell (by simp) _, by simp [World.setCell]; exact h.2.1, ?_, ?_, ?_⟩
  · rw [heap_setCell_other _ _ _ _ (by simp)]; exact h.2.2.1
  · rw [heap_setCell_other _ _ _ _ (by simp)]; exact h.2.2.2.1
  · rw [heap_setCell_same wr _ k _ _ _ h.2.2.2.2, u32v_set]
theorem block_word {s : ByteArray} {k : Nat} (h0 : 4 * k < s.size) (h1 : 4 * k + 1 < s.size) (h2 : 4 * k + 2 < s.size) (h3 : 4 * k + 3 < s.size) :
    bits .or .u32 (bits .or .u32 (bits .or .u32 (((s[4 * k]'h0).toNat : Int) * 16777216) (((s[4 * k + 1]'h1).toNat : Int) * 65536)) (((s[4 * k + 2]'h2).toNat : Int) * 256)) ((s[4 * k + 3]'h3).toNat : Int) = word s.data.toList k := by
  rw [by_at h0, by_at h1, by_at h2, by_at h3, word_or _ _ _ _ (by_range _ _) (by_range _ _) (by_range _ _) (by_range _ _)]
  rfl
theorem block_wnew {l : List UInt8} {W : List Int} {j : Nat} {a0 a1 a9 a14 : Int} (hW : W = sched l j ++ zs (64 - (j + 16))) (h0 : a0 = W.getD j 0) (h1 : a1 = W.getD (j + 1) 0) (h9 : a9 = W.getD (j + 9) 0) (h14 : a14 = W.getD (j + 14) 0) :
    IntKind.u32.wrap (IntKind.u32.wrap (IntKind.u32.wrap (a0 + a9) + bits BinOp.xor IntKind.u32 (bits BinOp.xor IntKind.u32 (rotI a1 7) (rotI a1 18)) (a1 / 8)) + bits BinOp.xor IntKind.u32 (bits BinOp.xor IntKind.u32 (rotI a14 17) (rotI a14 19)) (a14 / 1024)) = wnew (sched l j) j := by
  have hl := sched_length l j
  rw [hW, getD_left (by omega)] at h0 h1 h9 h14
  rw [h0, h1, h9, h14]
  simp only [IntKind.wrap_u32]
  rfl
/-- .. and the words of the rounds -/
def BlkB (w wr : World) (V : Nat) (S W : List Int) (v : St) : Prop := BlkA w wr S W ∧ w.heap.size + 3 ≤ V ∧ wr.heap[V]? = some (.cells (u32v v.l).toArray 117 (0, 0))
theorem BlkB.drewN {w wr : World} {V : Nat} {S W : List Int} {v : St} (h : BlkB w wr V S W v) (n : Nat) : BlkB w (wr.drewN n) V S W v := ⟨h.1.drewN n, h.2.1, h.2.2⟩
theorem BlkB.start {w wr : World} {S W : List Int} (h : BlkA w wr S W) (v : St) : BlkB w (wr.alloc (.cells (u32v v.l).toArray 117)) wr.heap.size S W v := by
  refine ⟨⟨bw_alloc h.1 _, by simp; have := h.2.1; omega, ?_, ?_, ?_⟩, h.2.1, heap_alloc_new _ _⟩
  · rw [Below.heap_alloc _ _ _ (by have := h.2.1; omega)]; exact h.2.2.1
  · rw [Below.heap_alloc _ _ _ (by have := h.2.1; omega)]; exact h.2.2.2.1
  · rw [Below.heap_alloc _ _ _ (by have := h.2.1; omega)]; exact h.2.2.2.2
theorem BlkB.vcell {w wr : World} {V : Nat} {S W : List Int} {v : St} (h : BlkB w wr V S W v) (k : Nat) (hk : k < 8) : wr.cell? ⟨V, k, none⟩ = some (.int .u32 (v.l.getD k 0)) := by
  rw [cell_of_row wr _ k _ _ _ h.2.2, u32v_at v.l k (by rw [St.l_length]; exact hk)]
theorem BlkB.vcells {w wr : World} {V : Nat} {S W : List Int} {v : St} (h : BlkB w wr V S W v) :
    wr.cell? ⟨V, 0, none⟩ = some (.int .u32 v.a) ∧ wr.cell? ⟨V, 1, none⟩ = some (.int .u32 v.b) ∧ wr.cell? ⟨V, 2, none⟩ = some (.int .u32 v.c) ∧ wr.cell? ⟨V, 3, none⟩ = some (.int .u32 v.d) ∧
    wr.cell? ⟨V, 4, none⟩ = some (.int .u32 v.e) ∧ wr.cell? ⟨V, 5, none⟩ = some (.int .u32 v.f) ∧ wr.cell? ⟨V, 6, none⟩ = some (.int .u32 v.g) ∧ wr.cell? ⟨V, 7, none⟩ = some (.int .u32 v.h) :=
  ⟨h.vcell 0 (by omega), h.vcell 1 (by omega), h.vcell 2 (by omega), h.vcell 3 (by omega), h.vcell 4 (by omega), h.vcell 5 (by omega), h.vcell 6 (by omega), h.vcell 7 (by omega)⟩
theorem BlkB.rcell {w wr : World} {V : Nat} {S W : List Int} {v : St} (h : BlkB w wr V S W v) (hR : RoundsAt w) (k : Nat) (hk : k < 64) : wr.cell? ⟨0, k, none⟩ = some (.int .u32 (rkL.getD k 0)) := by
  rw [h.1.1.cell (p := ⟨0, k, none⟩) hR.1]
  exact hR.2 k hk
def BlkL (w wr : World) (V : Nat) (S W L : List Int) : Prop := BlkA w wr S W ∧ w.heap.size + 3 ≤ V ∧ wr.heap[V]? = some (.cells (u32v L).toArray 117 (0, 0))
theorem BlkL.set {w wr : World} {V : Nat} {S W L : List Int} (h : BlkL w wr V S W L) (k : Nat) (x : Int) : BlkL w (wr.setCell ⟨V, k, none⟩ (.int .u32 x)) V S W (L.set k x) := by
  have h3 := h.2.1
  refine ⟨⟨h.1.1.setCell (by show _ ≤ V; omega) _, by simp [World.setCell]; exact h.1.2.1, ?_, ?_, ?_⟩, h.2.1, ?_⟩
  · rw [heap_setCell_other _ _ _ _ (by show _ ≠ V; omega)]; exact h.1.2.2.1
  · rw [heap_setCell_other _ _ _ _ (by show _ ≠ V; omega)]; exact h.1.2.2.2.1
  · rw [heap_setCell_other _ _ _ _ (by show _ ≠ V; omega)]; exact h.1.2.2.2.2
  · rw [heap_setCell_same wr _ k _ _ _ h.2.2, u32v_set]
theorem BlkB.free {w wr : World} {V : Nat} {S W : List Int} {v : St} (h : BlkB w wr V S W v) (k : Nat) : wr.frozen? ⟨V, k, none⟩ = false := frozen_of_row wr _ k _ _ h.2.2
theorem BlkB.all {w wr : World} {V : Nat} {S W : List Int} {v : St} (h : BlkB w wr V S W v) (x0 x1 x2 x3 x4 x5 x6 x7 : Int) :
    BlkB w ((((((((wr.setCell ⟨V, 0, none⟩ (.int .u32 x0)).setCell ⟨V, 1, none⟩ (.int .u32 x1)).setCell ⟨V, 2, none⟩ (.int .u32 x2)).setCell ⟨V, 3, none⟩ (.int .u32 x3)).setCell ⟨V, 4, none⟩ (.int .u32 x4)).setCell ⟨V, 5, none⟩ (.int .u32 x5)).setCell ⟨V, 6, none⟩ (.int .u32 x6)).setCell ⟨V, 7, none⟩ (.int .u32 x7)) V S W ⟨x0, x1, x2, x3, x4, x5, x6, x7⟩ := by
  have hL : BlkL w wr V S W v.l := h
  exact (((((((hL.set 0 x0).set 1 x1).set 2 x2).set 3 x3).set 4 x4).set 5 x5).set 6 x6).set 7 x7
theorem BlkB.setS {w wr : World} {V : Nat} {S W : List Int} {v : St} (h : BlkB w wr V S W v) (k : Nat) (x : Int) : BlkB w (wr.setCell ⟨w.heap.size, k, none⟩ (.int .u32 x)) V (S.set k x) W v := by
  have h3 := h.2.1
  refine ⟨⟨h.1.1.setCell (Nat.le_refl _) _, by simp [World.setCell]; exact h.1.2.1, ?_, ?_, ?_⟩, h.2.1, ?_⟩
  · rw [heap_setCell_same wr _ k _ _ _ h.1.2.2.1, u32v_set]
  · rw [heap_setCell_other _ _ _ _ (by simp)]; exact h.1.2.2.2.1
  · rw [heap_setCell_other _ _ _ _ (by simp)]; exact h.1.2.2.2.2
  · rw [heap_setCell_other _ _ _ _ (by show _ ≠ w.heap.size; omega)]; exact h.2.2
theorem BlkB.drew {w wr : World} {V : Nat} {S W : List Int} {v : St} (h : BlkB w wr V S W v) : BlkB w wr.drew V S W v := ⟨h.1.drew, h.2.1, h.2.2⟩
theorem BlkA.scells {w wr : World} {W : List Int} {v : St} (h : BlkA w wr v.l W) :
    wr.cell? ⟨w.heap.size, 0, none⟩ = some (.int .u32 v.a) ∧ wr.cell? ⟨w.heap.size, 1, none⟩ = some (.int .u32 v.b) ∧ wr.cell? ⟨w.heap.size, 2, none⟩ = some (.int .u32 v.c) ∧ wr.cell? ⟨w.heap.size, 3, none⟩ = some (.int .u32 v.d) ∧
    wr.cell? ⟨w.heap.size, 4, none⟩ = some (.int .u32 v.e) ∧ wr.cell? ⟨w.heap.size, 5, none⟩ = some (.int .u32 v.f) ∧ wr.cell? ⟨w.heap.size, 6, none⟩ = some (.int .u32 v.g) ∧ wr.cell? ⟨w.heap.size, 7, none⟩ = some (.int .u32 v.h) :=
  ⟨h.scell 0 (by simp [St.l]), h.scell 1 (by simp [St.l]), h.scell 2 (by simp [St.l]), h.scell 3 (by simp [St.l]), h.scell 4 (by simp [St.l]), h.scell 5 (by simp [St.l]), h.scell 6 (by simp [St.l]), h.scell 7 (by simp [St.l])⟩
theorem BlkA.zcell {w wr : World} {S W : List Int} (h : BlkA w wr S W) (k : Nat) (hk : k < 8) : wr.cell? ⟨w.heap.size + 1, k, none⟩ = some (.int .u32 0) := by
  rw [cell_of_row wr _ k _ _ _ h.2.2.2.1, u32v_at _ k (by simp [zs]; exact hk)]
  unfold zs
  rw [List.getD_eq_getElem?_getD, List.getElem?_replicate, if_pos hk]
  rfl
theorem BlkA.zfree {w wr : World} {S W : List Int} (h : BlkA w wr S W) (k : Nat) : wr.frozen? ⟨w.heap.size + 1, k, none⟩ = false := frozen_of_row wr _ k _ _ h.2.2.2.1
/-- eight stores into one row -/
def set8 (wr : World) (b : Nat) (v : St) : World :=
  ((((((((wr.setCell ⟨b, 0, none⟩ (.int .u32 v.a)).setCell ⟨b, 1, none⟩ (.int .u32 v.b)).setCell ⟨b, 2, none⟩ (.int .u32 v.c)).setCell ⟨b, 3, none⟩ (.int .u32 v.d)).setCell ⟨b, 4, none⟩ (.int .u32 v.e)).setCell ⟨b, 5, none⟩ (.int .u32 v.f)).setCell ⟨b, 6, none⟩ (.int .u32 v.g)).setCell ⟨b, 7, none⟩ (.int .u32 v.h))
theorem u32_set {w : World} {g k : Nat} {L : List Int} {t : TypeId} (h : w.heap[g]? = some (.cells (u32v L).toArray t (0, 0))) (x : Int) : (w.setCell ⟨g, k, none⟩ (.int .u32 x)).heap[g]? = some (.cells (u32v (L.set k x)).toArray t (0, 0)) := by
  rw [heap_setCell_same w _ k _ _ _ h, u32v_set]
theorem set8_row {wr : World} {b : Nat} {t : TypeId} {v : St} (h : wr.heap[b]? = some (.cells (u32v (zs 8)).toArray t (0, 0))) : (set8 wr b v).heap[b]? = some (.cells (u32v v.l).toArray t (0, 0)) := by
  exact u32_set (u32_set (u32_set (u32_set (u32_set (u32_set (u32_set (u32_set h _) _) _) _) _) _) _) _
theorem set8_below {w wr : World} {b : Nat} {v : St} (h : Below w.heap.size w wr) (hb : w.heap.size ≤ b) : Below w.heap.size w (set8 wr b v) :=
  (((((((h.setCell hb _).setCell hb _).setCell hb _).setCell hb _).setCell hb _).setCell hb _).setCell hb _).setCell hb _
theorem cell_set_ne (w : World) (b b' o o' : Nat) (v : Value) (h : b ≠ b' ∨ o ≠ o') : (w.setCell ⟨b', o', none⟩ v).cell? ⟨b, o, none⟩ = w.cell? ⟨b, o, none⟩ := by
  rcases Decidable.em (b = b') with rfl | hb
  · have ho : o ≠ o' := by rcases h with h | h; exact absurd rfl h; exact h
    simp only [World.cell?, World.setCell, Array.getElem?_modify]
    simp only [if_true]
    cases w.heap[b]? with
    | none => rfl
    | some x => cases x <;> simp [Ne.symm ho]
  · exact World.cell?_of_block (w := w) (heap_setCell_other w _ _ v hb)
set_option maxHeartbeats 1000000 in
set_option maxRecDepth 100000 in
theorem block_any (s0 s1 s2 s3 s4 s5 s6 s7 : Int) (b : ByteArray) (w : World) (hb : b.size = 64) (hR : RoundsAt w) (hS : St.ok ⟨s0, s1, s2, s3, s4, s5, s6, s7⟩) :
    Calls Tryd.prog 95 #[.agg #[.int .u32 s0, .int .u32 s1, .int .u32 s2, .int .u32 s3, .int .u32 s4, .int .u32 s5, .int .u32 s6, .int .u32 s7], .string b] w fun e w' => e = .returned (.agg (u32v (St.block ⟨s0, s1, s2, s3, s4, s5, s6, s7⟩ b.data.toList).l).toArray) ∧ Below w.heap.size w w' := by
  have HBS := Lib.hid hb
  have HR := Lib.hid hR
  have HS := Lib.hid hS
  clear hR hS
  have hb64 : b.size ≤ 64 := by omega
  clear hb
  go_enter Tryd.func95, Tryd.ntmps95
  go_wp2
  go_loopw [17] (fun i wr => ∃ (k : Nat) (W : List Int), k ≤ 16 ∧ i = .int .i64 k ∧ Hid (W = words b.data.toList k ++ zs (64 - k)) ∧ Hid (BlkA w wr [s0, s1, s2, s3, s4, s5, s6, s7] W)) (fun i _ => 16 - (intOf i).toNat)
  case atStart => exact ⟨0, zs 64, by omega, rfl, rfl, blkA_start w s0 s1 s2 s3 s4 s5 s6 s7⟩
  case round =>
    obtain ⟨k, W, hk, rfl, hW, hA⟩ := hrel
    by_cases hlt : k < 16
    · have x0 : 4 * k < b.size := by rw [HBS.out]; omega
      have x1 : 4 * k + 1 < b.size := by rw [HBS.out]; omega
      have x2 : 4 * k + 2 < b.size := by rw [HBS.out]; omega
      have x3 : 4 * k + 3 < b.size := by rw [HBS.out]; omega
      have y0 : ((b[4 * k]'x0).toNat : Int) ≤ 255 := by have := (b[4 * k]'x0).toNat_lt; omega
      have y1 : ((b[4 * k + 1]'x1).toNat : Int) ≤ 255 := by have := (b[4 * k + 1]'x1).toNat_lt; omega
      have y2 : ((b[4 * k + 2]'x2).toNat : Int) ≤ 255 := by have := (b[4 * k + 2]'x2).toNat_lt; omega
      have y3 : ((b[4 * k + 3]'x3).toNat : Int) ≤ 255 := by have := (b[4 * k + 3]'x3).toNat_lt; omega
      have z0 : 4 * (k : Int) < b.size := by omega
      have z1 : 4 * (k : Int) + 1 < b.size := by omega
      have z2 : 4 * (k : Int) + 2 < b.size := by omega
      have z3 : 4 * (k : Int) + 3 < b.size := by omega
      go_wp2
      have hk64 : (k : Int) < 64 := by omega
      have e0 : IntKind.i64.wrap (4 * (k : Int)) = 4 * k := IntWalk.i64_in _ (by omega)
      have e1 : IntKind.i64.wrap (4 * (k : Int) + 1) = 4 * k + 1 := IntWalk.i64_in _ (by omega)
      have e2 : IntKind.i64.wrap (4 * (k : Int) + 2) = 4 * k + 2 := IntWalk.i64_in _ (by omega)
      have e3 : IntKind.i64.wrap (4 * (k : Int) + 3) = 4 * k + 3 := IntWalk.i64_in _ (by omega)
      have p0 : 0 ≤ 4 * (k : Int) := by omega
      have p1 : 0 ≤ 4 * (k : Int) + 1 := by omega
      have p2 : 0 ≤ 4 * (k : Int) + 2 := by omega
      have p3 : 0 ≤ 4 * (k : Int) + 3 := by omega
      have t0 : (4 * (k : Int)).toNat = 4 * k := by omega
      have t1 : (4 * (k : Int) + 1).toNat = 4 * k + 1 := by omega
      have t2 : (4 * (k : Int) + 2).toNat = 4 * k + 2 := by omega
      have t3 : (4 * (k : Int) + 3).toNat = 4 * k + 3 := by omega
      have u0 : IntKind.u32.wrap ((b[4 * k]'x0).toNat : Int) = (b[4 * k]'x0).toNat := wrap32_in (by omega) (by omega)
      have u1 : IntKind.u32.wrap ((b[4 * k + 1]'x1).toNat : Int) = (b[4 * k + 1]'x1).toNat := wrap32_in (by omega) (by omega)
      have u2 : IntKind.u32.wrap ((b[4 * k + 2]'x2).toNat : Int) = (b[4 * k + 2]'x2).toNat := wrap32_in (by omega) (by omega)
      have u3 : IntKind.u32.wrap ((b[4 * k + 3]'x3).toNat : Int) = (b[4 * k + 3]'x3).toNat := wrap32_in (by omega) (by omega)
      have v0 : IntKind.u32.wrap (((b[4 * k]'x0).toNat : Int) * 16777216) = (b[4 * k]'x0).toNat * 16777216 := wrap32_in (by omega) (by omega)
      have v1 : IntKind.u32.wrap (((b[4 * k + 1]'x1).toNat : Int) * 65536) = (b[4 * k + 1]'x1).toNat * 65536 := wrap32_in (by omega) (by omega)
      have v2 : IntKind.u32.wrap (((b[4 * k + 2]'x2).toNat : Int) * 256) = (b[4 * k + 2]'x2).toNat * 256 := wrap32_in (by omega) (by omega)
      go_still_tail 31, (by kernel_rfl)
      change wpList _ _ _ _ _ wr.drew
      have hWl : W.length = 64 := by rw [hW.out, List.length_append, words_length]; unfold zs; rw [List.length_replicate]; omega
      have hA2 := Lib.hid hA.out.drew
      have hc := hA2.out.wcell k (by omega)
      have hf := hA2.out.wfree k
      have HWl := Lib.hid hWl
      clear hWl hA
      generalize wr.drew = w2 at *
      go_wp2
      go_roundw
      case rel => exact ⟨k + 1, W.set k (word b.data.toList k), by omega, by go_num, show _ = _ by rw [hW.out, set_zs _ k 64 _ (words_length _ _) (by omega)]; rfl, by rw [← block_word x0 x1 x2 x3]; exact hA2.out.setW k _⟩
      case measure => simp [intOf]; omega
    · obtain rfl : k = 16 := by omega
      simp only [show ((16 : Nat) : Int) = 16 from rfl]
      have hA2 := hA
      have hW2 := hW
      clear hA hW
      go_wp2
      go_loopw [7] (fun i wr => ∃ (j : Nat) (W : List Int), j ≤ 48 ∧ i = .int .i64 ((j : Int) + 16) ∧ Hid (W = sched b.data.toList j ++ zs (64 - (j + 16))) ∧ Hid (BlkA w wr [s0, s1, s2, s3, s4, s5, s6, s7] W)) (fun i _ => 64 - (intOf i).toNat)
      case atStart => exact ⟨0, W, by omega, rfl, hW2.out, hA2.out⟩
      case round =>
        clear hA2 hW2
        obtain ⟨j, W, hj, rfl, hW, hA⟩ := hrel
        by_cases hlt : j < 48
        · have hWl : W.length = 64 := by rw [hW.out, List.length_append, sched_length]; unfold zs; rw [List.length_replicate]; omega
          obtain ⟨a0, hE0⟩ : ∃ a, a = W.getD j 0 := ⟨_, rfl⟩
          obtain ⟨a1, hE1⟩ : ∃ a, a = W.getD (j + 1) 0 := ⟨_, rfl⟩
          obtain ⟨a9, hE9⟩ : ∃ a, a = W.getD (j + 9) 0 := ⟨_, rfl⟩
          obtain ⟨a14, hE14⟩ : ∃ a, a = W.getD (j + 14) 0 := ⟨_, rfl⟩
          obtain ⟨a16, hE16⟩ : ∃ a, a = W.getD (j + 16) 0 := ⟨_, rfl⟩
          have hc0 := hA.out.wcell j (by omega)
          have hc1 := hA.out.wcell (j + 1) (by omega)
          have hc9 := hA.out.wcell (j + 9) (by omega)
          have hc14 := hA.out.wcell (j + 14) (by omega)
          have hc16 := hA.out.wcell (j + 16) (by omega)
          rw [← hE0] at hc0; rw [← hE1] at hc1; rw [← hE9] at hc9; rw [← hE14] at hc14; rw [← hE16] at hc16
          have hWr : InR W := by rw [hW.out]; exact inR_append (inR_sched _ _) (inR_zs _)
          have r1 : 0 ≤ a1 ∧ a1 ≤ 4294967295 := by rw [hE1]; exact hWr _
          have r14 : 0 ≤ a14 ∧ a14 ≤ 4294967295 := by rw [hE14]; exact hWr _
          obtain ⟨r1a, r1b⟩ := r1
          obtain ⟨r14a, r14b⟩ := r14
          have HE0 := Lib.hid hE0
          have HE1 := Lib.hid hE1
          have HE9 := Lib.hid hE9
          have HE14 := Lib.hid hE14
          clear hE0 hE1 hE9 hE14 hE16 hWr
          have hf := hA.out.wfree (j + 16)
          have HWl := Lib.hid hWl
          clear hWl
          go_wp2
          have e1 : IntKind.i64.wrap ((j : Int) + 16 - 15) = (j : Int) + 1 := by rw [IntWalk.i64_in _ (by omega)]; omega
          have e2 : IntKind.i64.wrap ((j : Int) + 16 - 2) = (j : Int) + 14 := by rw [IntWalk.i64_in _ (by omega)]; omega
          have p1 : 0 ≤ (j : Int) + 1 := by omega
          have p2 : 0 ≤ (j : Int) + 14 := by omega
          have q1 : (j : Int) + 1 < 64 := by omega
          have q2 : (j : Int) + 14 < 64 := by omega
          have t1 : ((j : Int) + 1).toNat = j + 1 := by omega
          have t2 : ((j : Int) + 14).toNat = j + 14 := by omega
          go_quiet (fail)
          go_wp2
          have e3 : IntKind.i64.wrap ((j : Int) + 16 - 16) = (j : Int) := by rw [IntWalk.i64_in _ (by omega)]; omega
          have e4 : IntKind.i64.wrap ((j : Int) + 16 - 7) = (j : Int) + 9 := by rw [IntWalk.i64_in _ (by omega)]; omega
          have e5 : IntKind.i64.wrap (j : Int) = (j : Int) := by rw [IntWalk.i64_in _ (by omega)]
          have p3 : 0 ≤ (j : Int) + 9 := by omega
          have p4 : 0 ≤ (j : Int) + 16 := by omega
          have q3 : (j : Int) + 9 < 64 := by omega
          have q4 : (j : Int) + 16 < 64 := by omega
          have q5 : (j : Int) < 64 := by omega
          have q6 : (0 : Int) ≤ (j : Int) := by omega
          have t3 : ((j : Int) + 9).toNat = j + 9 := by omega
          have t4 : ((j : Int) + 16).toNat = j + 16 := by omega
          have hA3 := Lib.hid (hA.out.drewN nq)
          have d0 : (wr.drewN nq).cell? ⟨w.heap.size + 2, j, none⟩ = some (.int .u32 a0) := hc0
          have d9 : (wr.drewN nq).cell? ⟨w.heap.size + 2, j + 9, none⟩ = some (.int .u32 a9) := hc9
          have d16 : (wr.drewN nq).cell? ⟨w.heap.size + 2, j + 16, none⟩ = some (.int .u32 a16) := hc16
          have df : (wr.drewN nq).frozen? ⟨w.heap.size + 2, j + 16, none⟩ = false := hf
          clear hc0 hc1 hc9 hc14 hc16 hf hA
          generalize wr.drewN nq = w2 at *
          go_region_held3 (fun w' => w'.cell? ⟨w.heap.size + 2, j, none⟩ = some (.int .u32 a0) ∧ w'.cell? ⟨w.heap.size + 2, j + 9, none⟩ = some (.int .u32 a9)) (first | go_keep | exact ⟨(cell_set_ne _ _ _ _ _ _ (.inr (by omega))).trans d0, (cell_set_ne _ _ _ _ _ _ (.inr (by omega))).trans d9⟩) (first | (go_at_call 96; refine (turn_any _ _ _ (by omega) (by omega) (by omega) (by omega)).mono ?_; rintro e w' ⟨rfl, m, rfl⟩))
          go_wp2
          go_roundw
          case rel => exact ⟨j + 1, W.set (j + 16) (wnew (sched b.data.toList j) j), by omega, by go_num, show _ = _ by rw [hW.out, set_zs _ (j + 16) 64 _ (sched_length _ _) (by omega), show j + 1 + 16 = j + 16 + 1 by omega]; rfl, by rw [← block_wnew hW.out HE0.out HE1.out HE9.out HE14.out]; exact (hA3.out.drewN _).setW (j + 16) _⟩
          case measure => simp [intOf]; omega
        · obtain rfl : j = 48 := by omega
          simp only [show ((48 : Nat) : Int) + 16 = 64 from rfl]
          have hA3 := hA
          have hW3 := hW
          clear hA hW
          have k0 := hA3.out.scell 0 (by simp)
          have k1 := hA3.out.scell 1 (by simp)
          have k2 := hA3.out.scell 2 (by simp)
          have k3 := hA3.out.scell 3 (by simp)
          have k4 := hA3.out.scell 4 (by simp)
          have k5 := hA3.out.scell 5 (by simp)
          have k6 := hA3.out.scell 6 (by simp)
          have k7 := hA3.out.scell 7 (by simp)
          simp only [List.getD_cons_zero, List.getD_cons_succ] at k0 k1 k2 k3 k4 k5 k6 k7
          go_wp2
          have hB := Lib.hid (BlkB.start hA3.out ⟨s0, s1, s2, s3, s4, s5, s6, s7⟩)
          clear hA3 k0 k1 k2 k3 k4 k5 k6 k7
          have hWr : Hid (InR W) := show InR W by rw [hW3.out]; exact inR_append (inR_sched _ _) (inR_zs _)
          have hWl : Hid (W.length = 64) := show W.length = 64 by rw [hW3.out, List.length_append, sched_length]; unfold zs; rw [List.length_replicate]
          generalize wr.heap.size = V at *
          go_loopw [94] (fun sl wr => ∃ (i : Nat) (v : St), i ≤ 64 ∧ sl = .int .i64 i ∧ Hid (v = St.rounds ⟨s0, s1, s2, s3, s4, s5, s6, s7⟩ W i) ∧ Hid (BlkB w wr V [s0, s1, s2, s3, s4, s5, s6, s7] W v)) (fun i _ => 64 - (intOf i).toNat)
          case atStart => exact ⟨0, _, by omega, rfl, rfl, hB.out⟩
          case round =>
            clear hB
            obtain ⟨i, v, hi, rfl, hv, hB⟩ := hrel
            by_cases hlt : i < 64
            · obtain ⟨c0, c1, c2, c3, c4, c5, c6, c7⟩ := hB.out.vcells
              have hvo : v.ok := by rw [hv.out]; exact HS.out.rounds _ _
              obtain ⟨⟨ra0, ra1⟩, _, _, _, ⟨re0, re1⟩, _⟩ := hvo.at
              go_wp2
              go_quiet (fail)
              go_wp2_with fail
              have hB2 := Lib.hid (hB.out.drewN nq)
              clear hB c0 c1 c2 c3 c4 c5 c6 c7 hvo
              generalize Hw2 : wr.drewN nq = w2 at *
              clear Hw2
              obtain ⟨c0, c1, c2, c3, c4, c5, c6, c7⟩ := hB2.out.vcells
              obtain ⟨wi, hwi⟩ : ∃ x, x = W.getD i 0 := ⟨_, rfl⟩
              obtain ⟨ri, hri⟩ : ∃ x, x = rkL.getD i 0 := ⟨_, rfl⟩
              have cw := hB2.out.1.wcell i (by rw [hWl.out]; exact hlt)
              have cr := hB2.out.rcell HR.out i hlt
              rw [← hwi] at cw
              rw [← hri] at cr
              have HWI := Lib.hid hwi
              have HRI := Lib.hid hri
              clear hwi hri
              have i0 : (0 : Int) ≤ (i : Int) := by omega
              have i1 : (i : Int) < 64 := by omega
              go_quiet ((go_at_call 96; exact Calls.quiet_of (turn_any _ _ _ (by omega) (by omega) (by omega) (by omega))))
              go_wp2_with fail
              have hB3 := Lib.hid (hB2.out.drewN nq)
              clear hB2 c0 c1 c2 c3 c4 c5 c6 c7 cw cr
              generalize Hw3 : w2.drewN nq = w3 at *
              clear Hw3
              obtain ⟨c0, c1, c2, c3, c4, c5, c6, c7⟩ := hB3.out.vcells
              have f0 := hB3.out.free 0
              have f1 := hB3.out.free 1
              have f2 := hB3.out.free 2
              have f3 := hB3.out.free 3
              have f4 := hB3.out.free 4
              have f5 := hB3.out.free 5
              have f6 := hB3.out.free 6
              have f7 := hB3.out.free 7
              go_quiet ((go_at_call 96; exact Calls.quiet_of (turn_any _ _ _ (by omega) (by omega) (by omega) (by omega))))
              go_wp2_with fail
              go_roundw
              case rel => exact ⟨i + 1, v.round ri wi, by omega, by go_num, show _ = _ by rw [hv.out, HRI.out, HWI.out]; rfl, (hB3.out.drewN nq).all _ _ _ _ _ _ _ _⟩
              case measure => simp [intOf]; omega
            · obtain rfl : i = 64 := by omega
              simp only [show ((64 : Nat) : Int) = 64 from rfl]
              go_wp2
              have hB4 := hB
              have hv4 := hv
              clear hB hv
              go_loopw [176] (fun sl wr => ∃ (i : Nat) (S : List Int), i ≤ 8 ∧ sl = .int .i64 i ∧ Hid (S = addTo (St.l ⟨s0, s1, s2, s3, s4, s5, s6, s7⟩) v.l i) ∧ Hid (BlkB w wr V S W v)) (fun i _ => 8 - (intOf i).toNat)
              case atStart => exact ⟨0, _, by omega, rfl, rfl, hB4.out⟩
              case round =>
                clear hB4
                obtain ⟨i, S, hi, rfl, hSi, hB⟩ := hrel
                by_cases hlt : i < 8
                · have cS := hB.out.1.scell i (by rw [hSi.out, addTo_length]; exact hlt)
                  have cV := hB.out.vcell i hlt
                  have fS := hB.out.1.sfree i
                  obtain ⟨x, hx⟩ : ∃ x, x = S.getD i 0 := ⟨_, rfl⟩
                  obtain ⟨y, hy⟩ : ∃ y, y = v.l.getD i 0 := ⟨_, rfl⟩
                  rw [← hx] at cS
                  rw [← hy] at cV
                  have HX := Lib.hid hx
                  have HY := Lib.hid hy
                  clear hx hy
                  have i0 : (0 : Int) ≤ (i : Int) := by omega
                  have i1 : (i : Int) < 8 := by omega
                  go_wp2
                  go_region
                  go_wp2
                  go_roundw
                  case rel => exact ⟨i + 1, S.set i (M32 (x + y)), by omega, by go_num, show _ = _ by rw [HX.out, HY.out, hSi.out]; rfl, (hB.out.setS i _).drew⟩
                  case measure => simp [intOf]; omega
                · obtain rfl : i = 8 := by omega
                  obtain ⟨r, hr⟩ : ∃ r, r = St.plus ⟨s0, s1, s2, s3, s4, s5, s6, s7⟩ v := ⟨_, rfl⟩
                  have hB5 : Hid (BlkB w wr V r.l W v) := show BlkB w wr V r.l W v by rw [hr, ← addTo_all, ← hSi.out]; exact hB.out
                  have HRR : Hid (r = St.block ⟨s0, s1, s2, s3, s4, s5, s6, s7⟩ b.data.toList) := show r = _ by
                    rw [hr, hv4.out, hW3.out, show 64 - (48 + 16) = 0 from rfl]
                    unfold zs
                    rw [List.replicate_zero, List.append_nil]
                    rfl
                  clear hB hSi hr
                  obtain ⟨k0, k1, k2, k3, k4, k5, k6, k7⟩ := hB5.out.1.scells
                  have z0 := hB5.out.1.zcell 0 (by omega)
                  have z1 := hB5.out.1.zcell 1 (by omega)
                  have z2 := hB5.out.1.zcell 2 (by omega)
                  have z3 := hB5.out.1.zcell 3 (by omega)
                  have z4 := hB5.out.1.zcell 4 (by omega)
                  have z5 := hB5.out.1.zcell 5 (by omega)
                  have z6 := hB5.out.1.zcell 6 (by omega)
                  have z7 := hB5.out.1.zcell 7 (by omega)
                  have y0 := hB5.out.1.zfree 0
                  have y1 := hB5.out.1.zfree 1
                  have y2 := hB5.out.1.zfree 2
                  have y3 := hB5.out.1.zfree 3
                  have y4 := hB5.out.1.zfree 4
                  have y5 := hB5.out.1.zfree 5
                  have y6 := hB5.out.1.zfree 6
                  have y7 := hB5.out.1.zfree 7
                  go_wp2
                  have hg := set8_row (v := r) hB5.out.1.2.2.2.1
                  have hbl := set8_below (v := r) (b := w.heap.size + 1) hB5.out.1.1 (by omega)
                  rw [← HRR.out]
                  exact bodyPost_ret (v := .agg (u32v r.l).toArray) (results_cell_row rfl _ _ (w.heap.size + 1) _ _ _ _ rfl hg Tryd.underlying117 rfl (by kernel_rfl)) rfl ⟨rfl, hbl⟩
end Go.Proofs.YtbeooeihedhabaaDoor
