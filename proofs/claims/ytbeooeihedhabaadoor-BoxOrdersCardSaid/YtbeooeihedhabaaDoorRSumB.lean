/- What the reference's Sum holds in memory; the words and the rounds in its own order: plain facts. Plain facts for the reference's Sum. -/
import Derived.Test.YtbeooeihedhabaaDoorRPad
namespace Go.Proofs.YtbeooeihedhabaaDoor
open Go.RowKit
/-- the words, one by one -/
def wseq (l : List UInt8) : Nat → List Int
  | 0 => []
  | k + 1 => wseq l k ++ [if k < 16 then word l k else wnew (wseq l k) (k - 16)]
theorem wseq_length (l : List UInt8) : ∀ k, (wseq l k).length = k
  | 0 => rfl
  | k + 1 => by simp [wseq, wseq_length l k]
theorem wseq_words (l : List UInt8) : ∀ k, k ≤ 16 → wseq l k = words l k
  | 0, _ => rfl
  | k + 1, h => by rw [wseq, words, wseq_words l k (by omega), if_pos (by omega)]
theorem wseq_sched (l : List UInt8) : ∀ j, wseq l (j + 16) = sched l j
  | 0 => wseq_words l 16 (Nat.le_refl _)
  | j + 1 => by rw [show j + 1 + 16 = (j + 16) + 1 by omega, wseq, sched, wseq_sched l j, if_neg (by omega), Nat.add_sub_cancel]
theorem inR_wseq (l : List UInt8) : ∀ k, InR (wseq l k)
  | 0 => inR_nil
  | k + 1 => inR_append (inR_wseq l k) (inR_one (by split; exact word_range l k; exact m32_range _))
/-- what Sum's memory holds: what comes out, the padded bytes, the state -/
structure RS (w wr : World) (g H : Nat) (bs : List Value) (fr : Nat × Nat) (S : List Int) : Prop where
  b : Below w.heap.size w wr
  o1 : w.heap.size < g
  o2 : g < H
  out : wr.heap[w.heap.size]? = some (.cells (u8s z32).toArray 51 (0, 0))
  row : wr.heap[g]? = some (.cells bs.toArray 5 fr)
  st : wr.heap[H]? = some (.cells (u32v S).toArray 77 (0, 0))
section
variable {w wr w' : World} {g H : Nat} {bs : List Value} {fr : Nat × Nat} {S : List Int}
theorem RS.below (h : RS w wr g H bs fr S) (hb : Below wr.heap.size wr w') : RS w w' g H bs fr S :=
  ⟨bw_call h.b hb, h.o1, h.o2, (hb.block _ (block_lt h.out)).trans h.out, (hb.block _ (block_lt h.row)).trans h.row, (hb.block _ (block_lt h.st)).trans h.st⟩
theorem RS.alloc (h : RS w wr g H bs fr S) (o : Obj) : RS w (wr.alloc o) g H bs fr S := h.below (bw_alloc (Below.refl _ _) o)
theorem RS.drewN (h : RS w wr g H bs fr S) (n : Nat) : RS w (wr.drewN n) g H bs fr S := h.below (bw_drewN (Below.refl _ _) n)
theorem RS.drew (h : RS w wr g H bs fr S) : RS w wr.drew g H bs fr S := h.below (Below.refl _ _).drew
theorem RS.set (h : RS w wr g H bs fr S) {X : Nat} (hX : H < X) (k : Nat) (v : Value) : RS w (wr.setCell ⟨X, k, none⟩ v) g H bs fr S := by
  have h1 := h.o1
  have h2 := h.o2
  exact ⟨h.b.setCell (by show _ ≤ X; omega) _, h1, h2, (heap_setCell_other _ _ _ _ (by show _ ≠ X; omega)).trans h.out, (heap_setCell_other _ _ _ _ (by show _ ≠ X; omega)).trans h.row, (heap_setCell_other _ _ _ _ (by show _ ≠ X; omega)).trans h.st⟩
theorem RS.setH (h : RS w wr g H bs fr S) (k : Nat) (x : Int) : RS w (wr.setCell ⟨H, k, none⟩ (.int .u32 x)) g H bs fr (S.set k x) := by
  have h1 := h.o1
  have h2 := h.o2
  exact ⟨h.b.setCell (by show _ ≤ H; omega) _, h1, h2, (heap_setCell_other _ _ _ _ (by show _ ≠ H; omega)).trans h.out, (heap_setCell_other _ _ _ _ (by show _ ≠ H; omega)).trans h.row, u32_set h.st x⟩
theorem RS.lt (h : RS w wr g H bs fr S) : H < wr.heap.size := block_lt h.st
theorem RS.scell (h : RS w wr g H bs fr S) (k : Nat) (hk : k < S.length) : wr.cell? ⟨H, k, none⟩ = some (.int .u32 (S.getD k 0)) := by
  rw [cell_of_row wr _ k _ _ _ h.st, u32v_at S k hk]
theorem RS.sfree (h : RS w wr g H bs fr S) (k : Nat) : wr.frozen? ⟨H, k, none⟩ = false := frozen_of_row wr _ k _ _ h.st
theorem RS.bcell {L : List UInt8} {rest : List Value} (h : RS w wr g H (u8s L ++ rest) fr S) (k : Nat) (hk : k < L.length) : wr.cell? ⟨g, k, none⟩ = some (.int .u8 (by_ L k)) := by
  rw [cell_of_row wr _ k _ _ _ h.row, List.getElem?_toArray, List.getElem?_append_left (by rw [u8s_length]; exact hk), u8s_get L k hk]
  unfold by_
  rw [List.getD_eq_getElem?_getD, List.getElem?_eq_getElem hk]
  rfl
end
/-- a row of words -/
def WAt (wr : World) (X : Nat) (W : List Int) : Prop := wr.heap[X]? = some (.cells (u32v W).toArray 77 (0, 0))
theorem WAt.below {wr w' : World} {X : Nat} {W : List Int} (h : WAt wr X W) (hb : Below wr.heap.size wr w') : WAt w' X W := (hb.block _ (block_lt h)).trans h
theorem WAt.cell {wr : World} {X : Nat} {W : List Int} (h : WAt wr X W) (k : Nat) (hk : k < W.length) : wr.cell? ⟨X, k, none⟩ = some (.int .u32 (W.getD k 0)) := by
  rw [cell_of_row wr _ k _ _ _ h, u32v_at W k hk]
theorem WAt.free {wr : World} {X : Nat} {W : List Int} (h : WAt wr X W) (k : Nat) : wr.frozen? ⟨X, k, none⟩ = false := frozen_of_row wr _ k _ _ h
theorem WAt.set {wr : World} {X : Nat} {W : List Int} (h : WAt wr X W) (k : Nat) (x : Int) : WAt (wr.setCell ⟨X, k, none⟩ (.int .u32 x)) X (W.set k x) := u32_set h x
theorem WAt.setH {wr : World} {X H : Nat} {W : List Int} (h : WAt wr X W) (hX : H < X) (k : Nat) (x : Value) : WAt (wr.setCell ⟨H, k, none⟩ x) X W := (heap_setCell_other _ _ _ _ (by show _ ≠ H; omega)).trans h
/-- eight words that can be read -/
def VAt (wr : World) (y : Nat) (v : St) : Prop := y < wr.heap.size ∧ ∀ k, k < 8 → wr.cell? ⟨y, k, none⟩ = some (.int .u32 (v.l.getD k 0))
theorem VAt.below {wr w' : World} {y : Nat} {v : St} (h : VAt wr y v) (hb : Below wr.heap.size wr w') : VAt w' y v :=
  ⟨Nat.lt_of_lt_of_le h.1 hb.size, fun k hk => (hb.cell (p := ⟨y, k, none⟩) h.1).trans (h.2 k hk)⟩
theorem VAt.cells {wr : World} {y : Nat} {v : St} (h : VAt wr y v) : wr.cell? ⟨y, 0, none⟩ = some (.int .u32 v.a) ∧ wr.cell? ⟨y, 1, none⟩ = some (.int .u32 v.b) ∧ wr.cell? ⟨y, 2, none⟩ = some (.int .u32 v.c) ∧ wr.cell? ⟨y, 3, none⟩ = some (.int .u32 v.d) ∧
    wr.cell? ⟨y, 4, none⟩ = some (.int .u32 v.e) ∧ wr.cell? ⟨y, 5, none⟩ = some (.int .u32 v.f) ∧ wr.cell? ⟨y, 6, none⟩ = some (.int .u32 v.g) ∧ wr.cell? ⟨y, 7, none⟩ = some (.int .u32 v.h) :=
  ⟨h.2 0 (by omega), h.2 1 (by omega), h.2 2 (by omega), h.2 3 (by omega), h.2 4 (by omega), h.2 5 (by omega), h.2 6 (by omega), h.2 7 (by omega)⟩
theorem VAt.new (w : World) (t : TypeId) {x0 x1 x2 x3 x4 x5 x6 x7 : Int} {s : St} (h0 : x0 = s.a) (h1 : x1 = s.b) (h2 : x2 = s.c) (h3 : x3 = s.d) (h4 : x4 = s.e) (h5 : x5 = s.f) (h6 : x6 = s.g) (h7 : x7 = s.h) :
    VAt (w.alloc (.cells #[.int .u32 x0, .int .u32 x1, .int .u32 x2, .int .u32 x3, .int .u32 x4, .int .u32 x5, .int .u32 x6, .int .u32 x7] t)) w.heap.size s := by
  subst h0 h1 h2 h3 h4 h5 h6 h7
  refine ⟨by simp, fun k hk => ?_⟩
  rw [cell_of_row _ w.heap.size k _ _ _ (heap_alloc_new w _)]
  match k, hk with
  | 0, _ | 1, _ | 2, _ | 3, _ | 4, _ | 5, _ | 6, _ | 7, _ => rfl
theorem word_blk {L : List UInt8} {m k : Nat} (hk : k < 16) (_h : 64 * m + 64 ≤ L.length) : word (blk L m) k = by_ L (64 * m + 4 * k) * 16777216 + by_ L (64 * m + 4 * k + 1) * 65536 + by_ L (64 * m + 4 * k + 2) * 256 + by_ L (64 * m + 4 * k + 3) := by
  have h1 : ∀ i, i < 64 → by_ (blk L m) i = by_ L (64 * m + i) := fun i hi => by
    unfold by_ blk
    rw [List.getD_eq_getElem?_getD, List.getD_eq_getElem?_getD, List.getElem?_take_of_lt hi, List.getElem?_drop]
  unfold word
  rw [h1 _ (by omega), h1 _ (by omega), h1 _ (by omega), h1 _ (by omega), ← Nat.add_assoc, ← Nat.add_assoc, ← Nat.add_assoc]
open Go.RowKit
theorem i64_in' (n : Int) (h : -9223372036854775808 ≤ n ∧ n ≤ 9223372036854775807) : IntKind.i64.wrap n = n := IntWalk.i64_in _ (by omega)
theorem info32 : Tryd.prog.info? 77 = some { ((Tryd.prog.info? 77).getD default) with zero := some (.int .u32 0), size := 1, bytes := 4 } := by kernel_rfl
theorem made32 : (madeCells (Value.int .u32 0).cells (64 * 1)).toList = u32v (zs 64) := by kernel_rfl
theorem made_row {w1 : World} {base g : Nat} (h : w1.ownsRow base 77 1 (.slice (some ⟨g, 0, none⟩) 64 64) 64 (madeCells (Value.int .u32 0).cells (64 * 1)).toList) : WAt w1 g (zs 64) := by
  rw [made32] at h
  rcases h.2 with ⟨h2, _⟩ | ⟨g', cap, cur, hv, _, hg, _, _, hs, ht⟩
  · cases h2
  · cases hv
    unfold WAt
    rw [hg, ← ht, List.take_of_length_le (by rw [Array.length_toList, hs]; exact Nat.le_refl _)]
theorem words_ref {x0 x1 x2 x3 : Int} (h0 : 0 ≤ x0 ∧ x0 ≤ 255) (h1 : 0 ≤ x1 ∧ x1 ≤ 255) (h2 : 0 ≤ x2 ∧ x2 ≤ 255) (h3 : 0 ≤ x3 ∧ x3 ≤ 255) :
    (((x0 * 16777216 + x1 * 65536) % 4294967296 + x2 * 256) % 4294967296 + x3) % 4294967296 = x0 * 16777216 + x1 * 65536 + x2 * 256 + x3 := by omega
theorem wnew_ref {W l : List Int} {j : Nat} {a0 a1 a9 a14 : Int} (hl : l.length = j + 16) (hW : W = l ++ zs (64 - (j + 16))) (h0 : a0 = W.getD j 0) (h1 : a1 = W.getD (j + 1) 0) (h9 : a9 = W.getD (j + 9) 0) (h14 : a14 = W.getD (j + 14) 0) :
    (sg1 a14 + a9 + sg0 a1 + a0) % 4294967296 = wnew l j := by
  rw [hW, getD_left (by omega)] at h0 h1 h9 h14
  unfold wnew M32
  rw [← h0, ← h1, ← h9, ← h14]
  omega
theorem own_zero (wr : World) : (wr.alloc (.cells #[] 77)).ownsRow wr.heap.size 77 1 (.slice (some ⟨wr.heap.size, 0, none⟩) 0 0) 0 [] :=
  ⟨rfl, .inr ⟨_, 0, #[], rfl, Nat.le_refl _, heap_alloc_new wr _, Nat.le_refl _, by simp [maxLen], rfl, rfl⟩⟩
theorem u32v_one (l : List Int) : ∀ u ∈ u32v l, u.oneCell' = true := by
  intro u hu
  obtain ⟨x, _, rfl⟩ := List.mem_map.1 hu
  rfl
theorem v_start {w' : World} {base : Nat} {v' : Value} {v : St} (h : w'.ownsRow base 77 1 v' (0 + 8) ([] ++ u32v v.l)) : ∃ y cap, v' = .slice (some ⟨y, 0, none⟩) 8 cap ∧ base ≤ y ∧ VAt w' y v := by
  rcases h.2 with ⟨_, h2⟩ | ⟨g', cap, cur, hv, hb, hg, _, _, hs, ht⟩
  · cases h2
  · refine ⟨g', cap, hv, hb, block_lt hg, fun k hk => ?_⟩
    rw [cell_of_row w' g' k _ _ _ hg]
    have h3 : (cur.toList.take (8 * 1))[k]? = some (.int .u32 (v.l.getD k 0)) := by
      have h4 : cur.toList.take (8 * 1) = u32v v.l := ht
      rw [h4]
      rw [← List.getElem?_toArray]
      exact u32v_at v.l k hk
    rw [List.getElem?_take_of_lt (by omega)] at h3
    simpa using h3
theorem VAt.setH {wr : World} {y H : Nat} {v : St} (h : VAt wr y v) (hy : H < y) (k : Nat) (x : Value) : VAt (wr.setCell ⟨H, k, none⟩ x) y v :=
  ⟨by simpa [World.setCell] using h.1, fun j hj => (cell_set_ne _ _ _ _ _ _ (.inl (by omega))).trans (h.2 j hj)⟩
theorem word_ex (t : Nat) (r : Int) (w : World) (ht : t < 64) (hr : r = rkL.getD t 0) :
    Calls Tryd.prog 82 #[.int .i64 t] w fun e w' => e = .returned (.int .u32 r) ∧ Below w.heap.size w w' := by
  rw [hr]
  exact word_any t w ht
theorem wrap_m32 (n : Int) : IntKind.u32.wrap n = M32 n := by rw [IntKind.wrap_u32]; rfl
theorem round_x {s : St} {k w : Int} : IntKind.u32.wrap (IntKind.u32.wrap (IntKind.u32.wrap (IntKind.u32.wrap (s.h + thr s.e 6 11 25) + bits BinOp.xor IntKind.u32 (bits BinOp.and IntKind.u32 s.e s.f) (bits BinOp.and IntKind.u32 (bits BinOp.xor IntKind.u32 IntKind.u32.max s.e) s.g)) + k) + w) = M32 (T1 s.e s.f s.g s.h k w) := by
  simp only [IntKind.wrap_u32]
  unfold M32 T1 thr xr
  omega
theorem round_y {s : St} : (thr s.a 2 13 22 + bits BinOp.xor IntKind.u32 (bits BinOp.xor IntKind.u32 (bits BinOp.and IntKind.u32 s.a s.b) (bits BinOp.and IntKind.u32 s.a s.c)) (bits BinOp.and IntKind.u32 s.b s.c)) % 4294967296 = M32 (T2 s.a s.b s.c) := by
  unfold M32 T2 thr xr
  rfl
theorem round_ae {s : St} {k w x y : Int} (hx : x = M32 (T1 s.e s.f s.g s.h k w)) (hy : y = M32 (T2 s.a s.b s.c)) : (x + y) % 4294967296 = (s.round k w).a ∧ (s.d + x) % 4294967296 = (s.round k w).e := by
  subst hx hy
  unfold St.round M32
  simp only
  omega
theorem RS.upd {w wr w' : World} {g H : Nat} {bs : List Value} {fr : Nat × Nat} {S : List Int} (h : RS w wr g H bs fr S) {X : Nat} {o : Obj} (hX : H < X) (hU : Upd wr w' X o) : RS w w' g H bs fr S := by
  have h1 := h.o1
  have h2 := h.o2
  exact ⟨hU.below h.b (by omega), h1, h2, (hU.other _ (by omega)).trans h.out, (hU.other _ (by omega)).trans h.row, (hU.other _ (by omega)).trans h.st⟩
def outI (u : St) (i : Nat) : List UInt8 := u.out.take i ++ zr (32 - i)
theorem out_length (u : St) : u.out.length = 32 := rfl
theorem outI_length (u : St) {i : Nat} (h : i ≤ 32) : (outI u i).length = 32 := by
  unfold outI
  rw [List.length_append, List.length_take, out_length, zr_length]
  omega
theorem outI_set (u : St) {i : Nat} (h : i < 32) : (outI u i).set i (u.out.getD i 0) = outI u (i + 1) := by
  unfold outI
  rw [show 32 - i = 1 + (32 - (i + 1)) by omega, zr_add, ← List.append_assoc, ← take_snoc (by rw [out_length]; exact h), List.append_assoc, List.append_assoc]
  have hl : (u.out.take i).length = i := by rw [List.length_take, out_length]; omega
  have := set_end (u.out.take i) [] (zr (32 - (i + 1))) 0 (u.out.getD i 0) 0 rfl
  rw [hl, Nat.add_zero] at this
  exact this
theorem out_byte {u : St} (hu : u.ok) {i : Nat} (h : i < 32) : (u.l.getD (i / 4) 0 / 2 ^ (24 - 8 * (i % 4))) % 256 = ((u.out.getD i 0).toNat : Int) := by
  have hr : ∀ q, q < 8 → u.l.getD q 0 / 16777216 % 256 = u.l.getD q 0 / 16777216 := fun q _ => by have := hu q; omega
  have key : ∀ q, q < 8 → (u.l.getD q 0 / 2 ^ 24 % 256 = ((u.out.getD (4 * q) 0).toNat : Int) ∧ u.l.getD q 0 / 2 ^ 16 % 256 = ((u.out.getD (4 * q + 1) 0).toNat : Int) ∧ u.l.getD q 0 / 2 ^ 8 % 256 = ((u.out.getD (4 * q + 2) 0).toNat : Int) ∧ u.l.getD q 0 / 2 ^ 0 % 256 = ((u.out.getD (4 * q + 3) 0).toNat : Int)) := by
    intro q hq
    have e : u.out.getD (4 * q) 0 = UInt8.ofNat (u.l.getD q 0 / 16777216).toNat ∧ u.out.getD (4 * q + 1) 0 = UInt8.ofNat (u.l.getD q 0 / 65536 % 256).toNat ∧ u.out.getD (4 * q + 2) 0 = UInt8.ofNat (u.l.getD q 0 / 256 % 256).toNat ∧ u.out.getD (4 * q + 3) 0 = UInt8.ofNat (u.l.getD q 0 % 256).toNat := by
      have : q = 0 ∨ q = 1 ∨ q = 2 ∨ q = 3 ∨ q = 4 ∨ q = 5 ∨ q = 6 ∨ q = 7 := by omega
      rcases this with rfl | rfl | rfl | rfl | rfl | rfl | rfl | rfl <;> exact ⟨rfl, rfl, rfl, rfl⟩
    obtain ⟨e0, e1, e2, e3⟩ := e
    have hq2 := hu q
    rw [e0, e1, e2, e3, ← byte_out, ← byte_out, ← byte_out, ← byte_top hq2.1 hq2.2]
    refine ⟨hr q hq, rfl, rfl, ?_⟩
    rw [Int.pow_zero, Int.ediv_one]
  obtain ⟨k0, k1, k2, k3⟩ := key (i / 4) (by omega)
  have : i % 4 = 0 ∨ i % 4 = 1 ∨ i % 4 = 2 ∨ i % 4 = 3 := by omega
  rcases this with h4 | h4 | h4 | h4
  · rw [h4, show i = 4 * (i / 4) by omega]; simpa using k0
  · rw [h4, show u.out.getD i 0 = u.out.getD (4 * (i / 4) + 1) 0 by congr 1; omega]; exact k1
  · rw [h4, show u.out.getD i 0 = u.out.getD (4 * (i / 4) + 2) 0 by congr 1; omega]; exact k2
  · rw [h4, show u.out.getD i 0 = u.out.getD (4 * (i / 4) + 3) 0 by congr 1; omega]; exact k3
end Go.Proofs.YtbeooeihedhabaaDoor
