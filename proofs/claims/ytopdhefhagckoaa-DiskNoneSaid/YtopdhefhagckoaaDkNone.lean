/- disk's law DiskNone: what the call does. -/
import Derived.Test.YtopdhefhagckoaaDkAwake
import Derived.Test.YtopdhefhagckoaaD9Open
namespace Go.Proofs.Ytopdhefhagckoaa
open Go.RowKit Go.Maps
set_option maxHeartbeats 2000000
set_option maxRecDepth 4000
theorem keep_row3 {W W' : World} (hb : Below W.heap.size W W') {b : Nat} {o : Obj} (h : W.heap[b]? = some o) : W'.heap[b]? = some o := (hb.block b (block_lt h)).trans h
theorem bw_call3 {w W W' : World} {B : Nat} (h : Below B w W) (k : Below W.heap.size W W') (hB : B ≤ W.heap.size) : Below B w W' := h.trans (k.mono hB)
theorem none_any (x : A9) (w : World) (_ : x.ok w) : Calls Try.prog 7 #[.agg x.cells.toArray] w fun e w' => e = .returned (.bool true) ∧ Below w.heap.size w w' := by
  obtain ⟨⟨kd, nm, to_, s, n, ks⟩, v⟩ := x
  show Calls Try.prog 7 #[.agg #[.int .i64 kd, .string nm, .string to_, .string s, .int .i64 n, v]] w _
  have HB0 : Hid (Below w.heap.size w (w.alloc (.cells #[.int .i64 kd, .string nm, .string to_, .string s, .int .i64 n, v] 36))) := show Below _ _ _ from bw_alloc (Below.refl _ _) _
  have hr0 : (w.alloc (.cells #[.int .i64 kd, .string nm, .string to_, .string s, .int .i64 n, v] 36)).heap[w.heap.size]? = some (.cells #[.int .i64 kd, .string nm, .string to_, .string s, .int .i64 n, v] 36 (0, 0)) := heap_alloc_new w _
  have hbl := block_lt hr0
  obtain ⟨w1, hw1⟩ : ∃ w1, w1 = w.alloc (.cells #[.int .i64 kd, .string nm, .string to_, .string s, .int .i64 n, v] 36) := ⟨_, rfl⟩
  rw [← hw1] at HB0 hr0 hbl
  go_enter Try.func7, Try.ntmps7
  go_wp2_with fail
  rw [← hw1]
  clear hw1
  refine (read_nil _ _).mono ?_
  rintro e w2 ⟨rfl, rfl⟩
  have c1 : w2.cell? ⟨w.heap.size, 1, none⟩ = some (.string nm) := by rw [cell_of_row _ _ _ _ _ _ hr0]; rfl
  go_wp2_with fail
  refine (safe_nil _ _).mono ?_
  rintro e w2 ⟨rfl, rfl⟩
  go_wp2_with fail
  refine (awake_any _).mono ?_
  rintro e w3 ⟨rfl, hb3⟩
  have hr3 := keep_row3 hb3 hr0
  have c1 : w3.cell? ⟨w.heap.size, 1, none⟩ = some (.string nm) := by rw [cell_of_row _ _ _ _ _ _ hr3]; rfl
  have c2 : w3.cell? ⟨w.heap.size, 2, none⟩ = some (.string to_) := by rw [cell_of_row _ _ _ _ _ _ hr3]; rfl
  have c3 : w3.cell? ⟨w.heap.size, 3, none⟩ = some (.string s) := by rw [cell_of_row _ _ _ _ _ _ hr3]; rfl
  have c4 : w3.cell? ⟨w.heap.size, 4, none⟩ = some (.int .i64 n) := by rw [cell_of_row _ _ _ _ _ _ hr3]; rfl
  have c5 : w3.cell? ⟨w.heap.size, 5, none⟩ = some v := by rw [cell_of_row _ _ _ _ _ _ hr3]; rfl
  have HB := Lib.hid (bw_call3 HB0.out hb3 (Nat.le_of_lt hbl))
  clear hr0 hr3 hb3 hbl
  go_wp2_with fail
  refine (append_nil' _ _ _).mono ?_
  rintro e w4 ⟨rfl, rfl⟩
  go_wp2_with fail
  refine (sync_nil _ _).mono ?_
  rintro e w4 ⟨rfl, rfl⟩
  go_wp2_with fail
  refine (rename_nil _ _ _).mono ?_
  rintro e w4 ⟨rfl, rfl⟩
  go_wp2_with fail
  refine (remove_nil _ _).mono ?_
  rintro e w4 ⟨rfl, rfl⟩
  go_wp2_with fail
  refine (arm_nil _ _).mono ?_
  rintro e w4 ⟨rfl, rfl⟩
  go_wp2_with fail
  refine (crash_nil _ _).mono ?_
  rintro e w4 ⟨rfl, rfl⟩
  go_wp2_with fail
  refine (down_nil _).mono ?_
  rintro e w4 ⟨rfl, rfl⟩
  go_wp2_with fail
  refine (names_nil _).mono ?_
  rintro e w4 ⟨rfl, rfl⟩
  go_wp2_with fail
  go_ret
  exact ⟨rfl, HB.out⟩
end Go.Proofs.Ytopdhefhagckoaa
