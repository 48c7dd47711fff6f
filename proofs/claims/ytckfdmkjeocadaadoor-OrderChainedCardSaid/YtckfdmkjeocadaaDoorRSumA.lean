/- What the reference's Sum holds in memory; the words and the rounds in its own order: plain facts. -/
import Derived.Test.YtckfdmkjeocadaaDoorRPad
namespace Go.Proofs.YtckfdmkjeocadaaDoor
open Go.RowKit
/-- the words, one by one -/
def wseq (l : List UInt8) : Nat → List Int
  | 0 => []
  | k + 1 => wseq l k ++ [if k < 16 then word l k else wnew (wseq l k) (k - 16)]
theorem wseq_length (l : List UInt8) : ∀ k, (wseq l k).length = k
  | 0 => rfl
  | k + 1 => by simp [wseq, wseq_length l k]
theorem wseq_words (l : List UInt8) : ∀ k, k ≤ 16 → wseq l k = words l k
  | 0, _ => rfl
  | k + 1, h => by rw [wseq, words, wseq_words l k (by omega), if_pos (by omega)]
theorem wseq_sched (l : List UInt8) : ∀ j, wseq l (j + 16) = sched l j
  | 0 => wseq_words l 16 (Nat.le_refl _)
  | j + 1 => by rw [show j + 1 + 16 = (j + 16) + 1 by omega, wseq, sched, wseq_sched l j, if_neg (by omega), Nat.add_sub_cancel]
theorem inR_wseq (l : List UInt8) : ∀ k, InR (wseq l k)
  | 0 => inR_nil
  | k + 1 => inR_append (inR_wseq l k) (inR_one (by split; exact word_range l k; exact m32_range _))
/-- what Sum's memory holds: what comes out, the padded bytes, the state -/
structure RS (w wr : World) (g H : Nat) (bs : List Value) (fr : Nat × Nat) (S : List Int) : Prop where
  b : Below w.heap.size w wr
  o1 : w.heap.size < g
  o2 : g < H
  out : wr.heap[w.heap.size]? = some (.cells (u8s z32).toArray 23 (0, 0))
  row : wr.heap[g]? = some (.cells bs.toArray 5 fr)
  st : wr.heap[H]? = some (.cells (u32v S).toArray 123 (0, 0))
section
variable {w wr w' : World} {g H : Nat} {bs : List Value} {fr : Nat × Nat} {S : List Int}
theorem RS.below (h : RS w wr g H bs fr S) (hb : Below wr.heap.size wr w') : RS w w' g H bs fr S :=
  ⟨bw_call h.b hb, h.o1, h.o2, (hb.block _ (block_lt h.out)).trans h.out, (hb.block _ (block_lt h.row)).trans h.row, (hb.block _ (block_lt h.st)).trans h.st⟩
theorem RS.alloc (h : RS w wr g H bs fr S) (o : Obj) : RS w (wr.alloc o) g H bs fr S := h.below (bw_alloc (Below.refl _ _) o)
theorem RS.drewN (h : RS w wr g H bs fr S) (n : Nat) : RS w (wr.drewN n) g H bs fr S := h.below (bw_drewN (Below.refl _ _) n)
theorem RS.drew (h : RS w wr g H bs fr S) : RS w wr.drew g H bs fr S := h.below (Below.refl _ _).drew
theorem RS.set (h : RS w wr g H bs fr S) {X : Nat} (hX : H < X) (k : Nat) (v : Value) : RS w (wr.setCell ⟨X, k, none⟩ v) g H bs fr S := by
  have h1 := h.o1
  have h2 := h.o2
  exact ⟨h.b.setCell (by show _ ≤ X; omega) _, h1, h2, (heap_setCell_other _ _ _ _ (by show _ ≠ X; omega)).trans h.out, (heap_setCell_other _ _ _ _ (by show _ ≠ X; omega)).trans h.row, (heap_setCell_other _ _ _ _ (by show _ ≠ X; omega)).trans h.st⟩
theorem RS.setH (h : RS w wr g H bs fr S) (k : Nat) (x : Int) : RS w (wr.setCell ⟨H, k, none⟩ (.int .u32 x)) g H bs fr (S.set k x) := by
  have h1 := h.o1
  have h2 := h.o2
  exact ⟨h.b.setCell (by show _ ≤ H; omega) _, h1, h2, (heap_setCell_other _ _ _ _ (by show _ ≠ H; omega)).trans h.out, (heap_setCell_other _ _ _ _ (by show _ ≠ H; omega)).trans h.row, u32_set h.st x⟩
theorem RS.lt (h : RS w wr g H bs fr S) : H < wr.heap.size := block_lt h.st
theorem RS.scell (h : RS w wr g H bs fr S) (k : Nat) (hk : k < S.length) : wr.cell? ⟨H, k, none⟩ = some (.int .u32 (S.getD k 0)) := by
  rw [cell_of_row wr _ k _ _ _ h.st, u32v_at S k hk]
theorem RS.sfree (h : RS w wr g H bs fr S) (k : Nat) : wr.frozen? ⟨H, k, none⟩ = false := frozen_of_row wr _ k _ _ h.st
theorem RS.bcell {L : List UInt8} {rest : List Value} (h : RS w wr g H (u8s L ++ rest) fr S) (k : Nat) (hk : k < L.length) : wr.cell? ⟨g, k, none⟩ = some (.int .u8 (by_ L k)) := by
  rw [cell_of_row wr _ k _ _ _ h.row, List.getElem?_toArray, List.getElem?_append_left (by rw [u8s_length]; exact hk), u8s_get L k hk]
  unfold by_
  rw [List.getD_eq_getElem?_getD, List.getElem?_eq_getElem hk]
  rfl
end
/-- a row of words -/
def WAt (wr : World) (X : Nat) (W : List Int) : Prop := wr.heap[X]? = some (.cells (u32v W).toArray 123 (0, 0))
theorem WAt.below {wr w' : World} {X : Nat} {W : List Int} (h : WAt wr X W) (hb : Below wr.heap.size wr w') : WAt w' X W := (hb.block _ (block_lt h)).trans h
theorem WAt.cell {wr : World} {X : Nat} {W : List Int} (h : WAt wr X W) (k : Nat) (hk : k < W.length) : wr.cell? ⟨X, k, none⟩ = some (.int .u32 (W.getD k 0)) := by
  rw [cell_of_row wr _ k _ _ _ h, u32v_at W k hk]
theorem WAt.free {wr : World} {X : Nat} {W : List Int} (h : WAt wr X W) (k : Nat) : wr.frozen? ⟨X, k, none⟩ = false := frozen_of_row wr _ k _ _ h
theorem WAt.set {wr : World} {X : Nat} {W : List Int} (h : WAt wr X W) (k : Nat) (x : Int) : WAt (wr.setCell ⟨X, k, none⟩ (.int .u32 x)) X (W.set k x) := u32_set h x
theorem WAt.setH {wr : World} {X H : Nat} {W : List Int} (h : WAt wr X W) (hX : H < X) (k : Nat) (x : Value) : WAt (wr.setCell ⟨H, k, none⟩ x) X W := (heap_setCell_other _ _ _ _ (by show _ ≠ H; omega)).trans h
/-- eight words that can be read -/
def VAt (wr : World) (y : Nat) (v : St) : Prop := y < wr.heap.size ∧ ∀ k, k < 8 → wr.cell? ⟨y, k, none⟩ = some (.int .u32 (v.l.getD k 0))
theorem VAt.below {wr w' : World} {y : Nat} {v : St} (h : VAt wr y v) (hb : Below wr.heap.size wr w') : VAt w' y v :=
  ⟨Nat.lt_of_lt_of_le h.1 hb.size, fun k hk => (hb.cell (p := ⟨y, k, none⟩) h.1).trans (h.2 k hk)⟩
theorem VAt.cells {wr : World} {y : Nat} {v : St} (h : VAt wr y v) : wr.cell? ⟨y, 0, none⟩ = some (.int .u32 v.a) ∧ wr.cell? ⟨y, 1, none⟩ = some (.int .u32 v.b) ∧ wr.cell? ⟨y, 2, none⟩ = some (.int .u32 v.c) ∧ wr.cell? ⟨y, 3, none⟩ = some (.int .u32 v.d) ∧
    wr.cell? ⟨y, 4, none⟩ = some (.int .u32 v.e) ∧ wr.cell? ⟨y, 5, none⟩ = some (.int .u32 v.f) ∧ wr.cell? ⟨y, 6, none⟩ = some (.int .u32 v.g) ∧ wr.cell? ⟨y, 7, none⟩ = some (.int .u32 v.h) :=
  ⟨h.2 0 (by omega), h.2 1 (by omega), h.2 2 (by omega), h.2 3 (by omega), h.2 4 (by omega), h.2 5 (by omega), h.2 6 (by omega), h.2 7 (by omega)⟩
theorem VAt.new (w : World) (t : TypeId) {x0 x1 x2 x3 x4 x5 x6 x7 : Int} {s : St} (h0 : x0 = s.a) (h1 : x1 = s.b) (h2 : x2 = s.c) (h3 : x3 = s.d) (h4 : x4 = s.e) (h5 : x5 = s.f) (h6 : x6 = s.g) (h7 : x7 = s.h) :
    VAt (w.alloc (.cells #[.int .u32 x0, .int .u32 x1, .int .u32 x2, .int .u32 x3, .int .u32 x4, .int .u32 x5, .int .u32 x6, .int .u32 x7] t)) w.heap.size s := by
  subst h0 h1 h2 h3 h4 h5 h6 h7
  refine ⟨by simp, fun k hk => ?_⟩
  rw [cell_of_row _ w.heap.size k _ _ _ (heap_alloc_new w _)]
  match k, hk with
  | 0, _ | 1, _ | 2, _ | 3, _ | 4, _ | 5, _ | 6, _ | 7, _ => rfl
theorem word_blk {L : List UInt8} {m k : Nat} (hk : k < 16) (_h : 64 * m + 64 ≤ L.length) : word (blk L m) k = by_ L (64 * m + 4 * k) * 16777216 + by_ L (64 * m + 4 * k + 1) * 65536 + by_ L (64 * m + 4 * k + 2) * 256 + by_ L (64 * m + 4 * k + 3) := by
  have h1 : ∀ i, i < 64 → by_ (blk L m) i = by_ L (64 * m + i) := fun i hi => by
    unfold by_ blk
    rw [List.getD_eq_getElem?_getD, List.getD_eq_getElem?_getD, List.getElem?_take_of_lt hi, List.getElem?_drop]
  unfold word
  rw [h1 _ (by omega), h1 _ (by omega), h1 _ (by omega), h1 _ (by omega), ← Nat.add_assoc, ← Nat.add_assoc, ← Nat.add_assoc]
end Go.Proofs.YtckfdmkjeocadaaDoor
