/- crate.Pack's closure: what the call does. -/
import Derived.Test.YtbelofikknfoaaaCKRPk
namespace Go.Proofs.Ytbelofikknfoaaa
open Go.RowKit
set_option maxHeartbeats 2000000
set_option maxRecDepth 4000
/-- the closure's cells: the text, the way, the best -/
structure CrAt (N : Nat) (w W : World) (b1 b4 b5 : Nat) (s : ByteArray) (n : Nat) (B : ByteArray) : Prop where
  s : W.heap[b1]? = some (.cells #[.string s] 9 (0, 0))
  way : W.heap[b4]? = some (.cells #[.int .i64 n] 3 (0, 0))
  best : W.heap[b5]? = some (.cells #[.string B] 9 (0, 0))
  ne : b1 ≠ b5
  lo : N ≤ b1 ∧ N ≤ b4 ∧ N ≤ b5
  below : Below N w W
theorem CrAt.next {N : Nat} {w W W' : World} {b1 b4 b5 : Nat} {s B : ByteArray} {n : Nat} (h : CrAt N w W b1 b4 b5 s n B) (hb : Below W.heap.size W W') : CrAt N w W' b1 b4 b5 s n B :=
  ⟨keep_row hb h.s, keep_row hb h.way, keep_row hb h.best, h.ne, h.lo, h.below.trans (hb.mono (by have := block_lt h.s; have := h.lo; omega))⟩
theorem CrAt.set {N : Nat} {w W : World} {b1 b4 b5 : Nat} {s B : ByteArray} {n : Nat} (h : CrAt N w W b1 b4 b5 s n B) (k : Nat) (T : ByteArray) : CrAt N w ((W.setCell ⟨b4, 0, none⟩ (.int .i64 k)).setCell ⟨b5, 0, none⟩ (.string T)) b1 b4 b5 s k T := by
  have h45 : b4 ≠ b5 := ne_of_types h.way h.best (by decide)
  have h14 : b1 ≠ b4 := ne_of_types h.s h.way (by decide)
  have a1 := set_row (i := 0) (cs := [.int .i64 (n : Int)]) h.way (.int .i64 (k : Int))
  have a5 : (W.setCell ⟨b4, 0, none⟩ (.int .i64 k)).heap[b5]? = some (.cells [Value.string B].toArray 9 (0, 0)) := (heap_setCell_other _ _ _ _ (Ne.symm h45)).trans h.best
  refine ⟨(heap_setCell_other _ _ _ _ h.ne).trans ((heap_setCell_other _ _ _ _ h14).trans h.s), (heap_setCell_other _ _ _ _ h45).trans a1, set_row (i := 0) a5 (.string T), h.ne, h.lo, h.below.trans ⟨rfl, rfl, rfl, by simp [World.setCell], fun j hj => ?_⟩⟩
  have := h.lo
  exact (heap_setCell_other _ _ _ _ (by show j ≠ b5; omega)).trans (heap_setCell_other _ _ _ _ (by show j ≠ b4; omega))
theorem try_any (N : Nat) (w0 : World) (b1 b4 b5 : Nat) (s B : ByteArray) (n k : Nat) (w : World) (h : CrAt N w0 w b1 b4 b5 s n B) (hk : k ≤ 3) (hs : s.size ≤ 32768) :
    Calls Try.prog 18 #[.int .i64 k, .pointer (some ⟨b1, 0, none⟩), .pointer (some ⟨b5, 0, none⟩), .pointer (some ⟨b4, 0, none⟩)] w fun e w' => e = .returned (.tuple #[]) ∧ ∃ n' B', (n', B'.data.toList) = (if (wayL k s.data.toList).length < B.data.toList.length then (k, wayL k s.data.toList) else (n, B.data.toList)) ∧ CrAt N w0 w' b1 b4 b5 s n' B' := by
  obtain ⟨T, hT⟩ : ∃ T, T = bstr (wayL k s.data.toList) := ⟨_, rfl⟩
  have hp := fun w => pack_any k s w hk hs
  rw [← hT] at hp
  have hT2 : wayL k s.data.toList = T.data.toList := by rw [hT]; rfl
  rw [hT2]
  have HP := Lib.hid hp
  have HA := Lib.hid h
  have c1 := cell_of_one h.s
  clear h hp hT hT2
  by_cases hsh : T.size < B.size
  · have d2 : decide ((T.size : Int) < B.size) = true := decide_eq_true (by omega)
    have d2' : decide (T.size < B.size) = true := decide_eq_true hsh
    rw [if_pos (show T.data.toList.length < B.data.toList.length from hsh)]
    go_enter Try.func18, Try.ntmps18
    go_wp2_with fail
    refine (HP.out _).mono ?_
    rintro e w2 ⟨rfl, hb2⟩
    have HA2 := Lib.hid (HA.out.next hb2)
    have HA3 := Lib.hid (HA2.out.set k T)
    have c5 := cell_of_one HA2.out.best
    have c4 := cell_of_one HA2.out.way
    have z4 : w2.frozen? ⟨b4, 0, none⟩ = false := frozen_of_row w2 b4 0 _ _ HA2.out.way
    have z5 : (w2.setCell ⟨b4, 0, none⟩ (.int .i64 k)).frozen? ⟨b5, 0, none⟩ = false := by
      rw [World.frozen?_setCell]
      exact frozen_of_row w2 b5 0 _ _ HA2.out.best
    have c5' : (w2.setCell ⟨b4, 0, none⟩ (.int .i64 k)).cell? ⟨b5, 0, none⟩ = some (.string B) := (World.cell?_of_block (a := ⟨b5, 0, none⟩) (heap_setCell_other _ _ _ _ (ne_of_types HA2.out.best HA2.out.way (by decide)))).trans c5
    clear hb2 c1
    go_wp2_with fail
    go_end0
    exact ⟨rfl, k, T, rfl, HA3.out⟩
  · have d2 : decide ((T.size : Int) < B.size) = false := decide_eq_false (by omega)
    have d2' : decide (T.size < B.size) = false := decide_eq_false hsh
    rw [if_neg (show ¬ T.data.toList.length < B.data.toList.length from hsh)]
    go_enter Try.func18, Try.ntmps18
    go_wp2_with fail
    refine (HP.out _).mono ?_
    rintro e w2 ⟨rfl, hb2⟩
    have HA2 := Lib.hid (HA.out.next hb2)
    have c5 := cell_of_one HA2.out.best
    clear hb2 c1
    go_wp2_with fail
    go_end0
    exact ⟨rfl, n, B, rfl, HA2.out⟩
end Go.Proofs.Ytbelofikknfoaaa
