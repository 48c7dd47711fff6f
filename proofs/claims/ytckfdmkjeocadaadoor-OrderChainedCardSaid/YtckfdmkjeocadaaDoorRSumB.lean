/- Plain facts for the reference's Sum. -/
import Derived.Test.YtckfdmkjeocadaaDoorRSumA
namespace Go.Proofs.YtckfdmkjeocadaaDoor
open Go.RowKit
theorem i64_in' (n : Int) (h : -9223372036854775808 ≤ n ∧ n ≤ 9223372036854775807) : IntKind.i64.wrap n = n := IntWalk.i64_in _ (by omega)
theorem info32 : Tryd.prog.info? 123 = some { ((Tryd.prog.info? 123).getD default) with zero := some (.int .u32 0), size := 1, bytes := 4 } := by kernel_rfl
theorem made32 : (madeCells (Value.int .u32 0).cells (64 * 1)).toList = u32v (zs 64) := by kernel_rfl
theorem made_row {w1 : World} {base g : Nat} (h : w1.ownsRow base 123 1 (.slice (some ⟨g, 0, none⟩) 64 64) 64 (madeCells (Value.int .u32 0).cells (64 * 1)).toList) : WAt w1 g (zs 64) := by
  rw [made32] at h
  rcases h.2 with ⟨h2, _⟩ | ⟨g', cap, cur, hv, _, hg, _, _, hs, ht⟩
  · cases h2
  · cases hv
    unfold WAt
    rw [hg, ← ht, List.take_of_length_le (by rw [Array.length_toList, hs]; exact Nat.le_refl _)]
theorem words_ref {x0 x1 x2 x3 : Int} (h0 : 0 ≤ x0 ∧ x0 ≤ 255) (h1 : 0 ≤ x1 ∧ x1 ≤ 255) (h2 : 0 ≤ x2 ∧ x2 ≤ 255) (h3 : 0 ≤ x3 ∧ x3 ≤ 255) :
    (((x0 * 16777216 + x1 * 65536) % 4294967296 + x2 * 256) % 4294967296 + x3) % 4294967296 = x0 * 16777216 + x1 * 65536 + x2 * 256 + x3 := by omega
theorem wnew_ref {W l : List Int} {j : Nat} {a0 a1 a9 a14 : Int} (hl : l.length = j + 16) (hW : W = l ++ zs (64 - (j + 16))) (h0 : a0 = W.getD j 0) (h1 : a1 = W.getD (j + 1) 0) (h9 : a9 = W.getD (j + 9) 0) (h14 : a14 = W.getD (j + 14) 0) :
    (sg1 a14 + a9 + sg0 a1 + a0) % 4294967296 = wnew l j := by
  rw [hW, getD_left (by omega)] at h0 h1 h9 h14
  unfold wnew M32
  rw [← h0, ← h1, ← h9, ← h14]
  omega
theorem own_zero (wr : World) : (wr.alloc (.cells #[] 123)).ownsRow wr.heap.size 123 1 (.slice (some ⟨wr.heap.size, 0, none⟩) 0 0) 0 [] :=
  ⟨rfl, .inr ⟨_, 0, #[], rfl, Nat.le_refl _, heap_alloc_new wr _, Nat.le_refl _, by simp [maxLen], rfl, rfl⟩⟩
theorem u32v_one (l : List Int) : ∀ u ∈ u32v l, u.oneCell' = true := by
  intro u hu
  obtain ⟨x, _, rfl⟩ := List.mem_map.1 hu
  rfl
theorem v_start {w' : World} {base : Nat} {v' : Value} {v : St} (h : w'.ownsRow base 123 1 v' (0 + 8) ([] ++ u32v v.l)) : ∃ y cap, v' = .slice (some ⟨y, 0, none⟩) 8 cap ∧ base ≤ y ∧ VAt w' y v := by
  rcases h.2 with ⟨_, h2⟩ | ⟨g', cap, cur, hv, hb, hg, _, _, hs, ht⟩
  · cases h2
  · refine ⟨g', cap, hv, hb, block_lt hg, fun k hk => ?_⟩
    rw [cell_of_row w' g' k _ _ _ hg]
    have h3 : (cur.toList.take (8 * 1))[k]? = some (.int .u32 (v.l.getD k 0)) := by
      have h4 : cur.toList.take (8 * 1) = u32v v.l := ht
      rw [h4]
      rw [← List.getElem?_toArray]
      exact u32v_at v.l k hk
    rw [List.getElem?_take_of_lt (by omega)] at h3
    simpa using h3
theorem VAt.setH {wr : World} {y H : Nat} {v : St} (h : VAt wr y v) (hy : H < y) (k : Nat) (x : Value) : VAt (wr.setCell ⟨H, k, none⟩ x) y v :=
  ⟨by simpa [World.setCell] using h.1, fun j hj => (cell_set_ne _ _ _ _ _ _ (.inl (by omega))).trans (h.2 j hj)⟩
theorem word_ex (t : Nat) (r : Int) (w : World) (ht : t < 64) (hr : r = rkL.getD t 0) :
    Calls Tryd.prog 96 #[.int .i64 t] w fun e w' => e = .returned (.int .u32 r) ∧ Below w.heap.size w w' := by
  rw [hr]
  exact word_any t w ht
theorem wrap_m32 (n : Int) : IntKind.u32.wrap n = M32 n := by rw [IntKind.wrap_u32]; rfl
theorem round_x {s : St} {k w : Int} : IntKind.u32.wrap (IntKind.u32.wrap (IntKind.u32.wrap (IntKind.u32.wrap (s.h + thr s.e 6 11 25) + bits BinOp.xor IntKind.u32 (bits BinOp.and IntKind.u32 s.e s.f) (bits BinOp.and IntKind.u32 (bits BinOp.xor IntKind.u32 IntKind.u32.max s.e) s.g)) + k) + w) = M32 (T1 s.e s.f s.g s.h k w) := by
  simp only [IntKind.wrap_u32]
  unfold M32 T1 thr xr
  omega
theorem round_y {s : St} : (thr s.a 2 13 22 + bits BinOp.xor IntKind.u32 (bits BinOp.xor IntKind.u32 (bits BinOp.and IntKind.u32 s.a s.b) (bits BinOp.and IntKind.u32 s.a s.c)) (bits BinOp.and IntKind.u32 s.b s.c)) % 4294967296 = M32 (T2 s.a s.b s.c) := by
  unfold M32 T2 thr xr
  rfl
theorem round_ae {s : St} {k w x y : Int} (hx : x = M32 (T1 s.e s.f s.g s.h k w)) (hy : y = M32 (T2 s.a s.b s.c)) : (x + y) % 4294967296 = (s.round k w).a ∧ (s.d + x) % 4294967296 = (s.round k w).e := by
  subst hx hy
  unfold St.round M32
  simp only
  omega
theorem RS.upd {w wr w' : World} {g H : Nat} {bs : List Value} {fr : Nat × Nat} {S : List Int} (h : RS w wr g H bs fr S) {X : Nat} {o : Obj} (hX : H < X) (hU : Upd wr w' X o) : RS w w' g H bs fr S := by
  have h1 := h.o1
  have h2 := h.o2
  exact ⟨hU.below h.b (by omega), h1, h2, (hU.other _ (by omega)).trans h.out, (hU.other _ (by omega)).trans h.row, (hU.other _ (by omega)).trans h.st⟩
def outI (u : St) (i : Nat) : List UInt8 := u.out.take i ++ zr (32 - i)
theorem out_length (u : St) : u.out.length = 32 := rfl
theorem outI_length (u : St) {i : Nat} (h : i ≤ 32) : (outI u i).length = 32 := by
  unfold outI
  rw [List.length_append, List.length_take, out_length, zr_length]
  omega
theorem outI_set (u : St) {i : Nat} (h : i < 32) : (outI u i).set i (u.out.getD i 0) = outI u (i + 1) := by
  unfold outI
  rw [show 32 - i = 1 + (32 - (i + 1)) by omega, zr_add, ← List.append_assoc, ← take_snoc (by rw [out_length]; exact h), List.append_assoc, List.append_assoc]
  have hl : (u.out.take i).length = i := by rw [List.length_take, out_length]; omega
  have := set_end (u.out.take i) [] (zr (32 - (i + 1))) 0 (u.out.getD i 0) 0 rfl
  rw [hl, Nat.add_zero] at this
  exact this
theorem out_byte {u : St} (hu : u.ok) {i : Nat} (h : i < 32) : (u.l.getD (i / 4) 0 / 2 ^ (24 - 8 * (i % 4))) % 256 = ((u.out.getD i 0).toNat : Int) := by
  have hr : ∀ q, q < 8 → u.l.getD q 0 / 16777216 % 256 = u.l.getD q 0 / 16777216 := fun q _ => by have := hu q; omega
  have key : ∀ q, q < 8 → (u.l.getD q 0 / 2 ^ 24 % 256 = ((u.out.getD (4 * q) 0).toNat : Int) ∧ u.l.getD q 0 / 2 ^ 16 % 256 = ((u.out.getD (4 * q + 1) 0).toNat : Int) ∧ u.l.getD q 0 / 2 ^ 8 % 256 = ((u.out.getD (4 * q + 2) 0).toNat : Int) ∧ u.l.getD q 0 / 2 ^ 0 % 256 = ((u.out.getD (4 * q + 3) 0).toNat : Int)) := by
    intro q hq
    have e : u.out.getD (4 * q) 0 = UInt8.ofNat (u.l.getD q 0 / 16777216).toNat ∧ u.out.getD (4 * q + 1) 0 = UInt8.ofNat (u.l.getD q 0 / 65536 % 256).toNat ∧ u.out.getD (4 * q + 2) 0 = UInt8.ofNat (u.l.getD q 0 / 256 % 256).toNat ∧ u.out.getD (4 * q + 3) 0 = UInt8.ofNat (u.l.getD q 0 % 256).toNat := by
      have : q = 0 ∨ q = 1 ∨ q = 2 ∨ q = 3 ∨ q = 4 ∨ q = 5 ∨ q = 6 ∨ q = 7 := by omega
      rcases this with rfl | rfl | rfl | rfl | rfl | rfl | rfl | rfl <;> exact ⟨rfl, rfl, rfl, rfl⟩
    obtain ⟨e0, e1, e2, e3⟩ := e
    have hq2 := hu q
    rw [e0, e1, e2, e3, ← byte_out, ← byte_out, ← byte_out, ← byte_top hq2.1 hq2.2]
    refine ⟨hr q hq, rfl, rfl, ?_⟩
    rw [Int.pow_zero, Int.ediv_one]
  obtain ⟨k0, k1, k2, k3⟩ := key (i / 4) (by omega)
  have : i % 4 = 0 ∨ i % 4 = 1 ∨ i % 4 = 2 ∨ i % 4 = 3 := by omega
  rcases this with h4 | h4 | h4 | h4
  · rw [h4, show i = 4 * (i / 4) by omega]; simpa using k0
  · rw [h4, show u.out.getD i 0 = u.out.getD (4 * (i / 4) + 1) 0 by congr 1; omega]; exact k1
  · rw [h4, show u.out.getD i 0 = u.out.getD (4 * (i / 4) + 2) 0 by congr 1; omega]; exact k2
  · rw [h4, show u.out.getD i 0 = u.out.getD (4 * (i / 4) + 3) 0 by congr 1; omega]; exact k3
end Go.Proofs.YtckfdmkjeocadaaDoor
