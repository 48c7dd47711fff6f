/- disk: a nil disk, a new one: what the calls do. -/
import Derived.Test.YtopdhefhagckoaaDkApp
namespace Go.Proofs.Ytopdhefhagckoaa
open Go.RowKit Go.Maps
set_option maxHeartbeats 2000000
set_option maxRecDepth 4000
theorem append_nil' (s t : ByteArray) (W : World) :
    Calls Try.prog 12 #[.pointer none, .string s, .string t] W fun e w' => e = .returned (.int .i64 1) ∧ w' = W := by
  go_enter Try.func12, Try.ntmps12
  go_wp2_with fail
  refine (wrong_nil _).mono ?_
  rintro e w1 ⟨rfl, rfl⟩
  go_wp2_with fail
  go_ret
  exact ⟨rfl, rfl⟩
theorem sync_nil (s : ByteArray) (W : World) :
    Calls Try.prog 13 #[.pointer none, .string s] W fun e w' => e = .returned (.int .i64 1) ∧ w' = W := by
  go_enter Try.func13, Try.ntmps13
  go_wp2_with fail
  refine (find_nil _ _).mono ?_
  rintro e w1 ⟨rfl, rfl⟩
  go_wp2_with fail
  go_ret
  exact ⟨rfl, rfl⟩
theorem rename_nil (s t : ByteArray) (W : World) :
    Calls Try.prog 24 #[.pointer none, .string s, .string t] W fun e w' => e = .returned (.int .i64 1) ∧ w' = W := by
  go_enter Try.func24, Try.ntmps24
  go_wp2_with fail
  refine (find_nil _ _).mono ?_
  rintro e w1 ⟨rfl, rfl⟩
  go_wp2_with fail
  go_ret
  exact ⟨rfl, rfl⟩
theorem remove_nil (s : ByteArray) (W : World) :
    Calls Try.prog 25 #[.pointer none, .string s] W fun e w' => e = .returned (.int .i64 1) ∧ w' = W := by
  go_enter Try.func25, Try.ntmps25
  go_wp2_with fail
  refine (find_nil _ _).mono ?_
  rintro e w1 ⟨rfl, rfl⟩
  go_wp2_with fail
  go_ret
  exact ⟨rfl, rfl⟩
theorem read_nil (s : ByteArray) (W : World) :
    Calls Try.prog 18 #[.pointer none, .string s] W fun e w' => e = .returned (.tuple #[.string ⟨#[]⟩, .int .i64 1]) ∧ w' = W := by
  go_enter Try.func18, Try.ntmps18
  go_wp2_with fail
  refine (find_nil _ _).mono ?_
  rintro e w1 ⟨rfl, rfl⟩
  go_wp2_with fail
  go_ret2
  exact ⟨rfl, rfl⟩
theorem safe_nil (s : ByteArray) (W : World) :
    Calls Try.prog 19 #[.pointer none, .string s] W fun e w' => e = .returned (.tuple #[.int .i64 0, .int .i64 1]) ∧ w' = W := by
  go_enter Try.func19, Try.ntmps19
  go_wp2_with fail
  refine (find_nil _ _).mono ?_
  rintro e w1 ⟨rfl, rfl⟩
  go_wp2_with fail
  go_ret2
  exact ⟨rfl, rfl⟩
theorem names_nil (W : World) :
    Calls Try.prog 14 #[.pointer none] W fun e w' => e = .returned (.slice none 0 0) ∧ w' = W := by
  go_enter Try.func14, Try.ntmps14
  go_wp2_with fail
  refine (wrong_nil _).mono ?_
  rintro e w1 ⟨rfl, rfl⟩
  go_wp2_with fail
  go_ret
  exact ⟨rfl, rfl⟩
theorem arm_nil (n : Int) (W : World) :
    Calls Try.prog 10 #[.pointer none, .int .i64 n] W fun e w' => e = .returned (.int .i64 1) ∧ w' = W := by
  go_enter Try.func10, Try.ntmps10
  go_wp2_with fail
  refine (wrong_nil _).mono ?_
  rintro e w1 ⟨rfl, rfl⟩
  go_wp2_with fail
  go_ret
  exact ⟨rfl, rfl⟩
theorem crash_nil (v : Value) (W : World) :
    Calls Try.prog 15 #[.pointer none, v] W fun e w' => e = .returned (.int .i64 1) ∧ w' = W := by
  go_enter Try.func15, Try.ntmps15
  go_wp2_with fail
  go_ret
  exact ⟨rfl, rfl⟩
/-- a new disk -/
theorem new_disk (N : Nat) (w W : World) (hb : Below N w W) (hN : N ≤ W.heap.size) :
    Calls Try.prog 8 #[] W fun e w' => ∃ bd bm, e = .returned (.pointer (some ⟨bd, 0, none⟩)) ∧ DkAt N w w' bd bm [] none ∧ Below W.heap.size W w' := by
  have hmk := run_makeMap (P := Try.prog) 51 W
  have hB1 : Below W.heap.size W ((W.alloc (.map #[] 0)).alloc (.cells #[.map (some W.heap.size), .bool false, .int .i64 0] 53)) := bw_alloc (bw_alloc (Below.refl _ _) _) _
  have hD : DkAt N w ((W.alloc (.map #[] 0)).alloc (.cells #[.map (some W.heap.size), .bool false, .int .i64 0] 53)) (W.heap.size + 1) W.heap.size [] none := by
    have h := heap_alloc_new (W.alloc (.map #[] 0)) (.cells #[.map (some W.heap.size), .bool false, .int .i64 0] 53)
    rw [show (W.alloc (.map #[] 0)).heap.size = W.heap.size + 1 by simp] at h
    have h2 := (World.ownsMap_made W Try.prog 9 ptrElem).alloc (.cells #[.map (some W.heap.size), .bool false, .int .i64 0] 53)
    exact ⟨⟨0, (fun k hk => by cases hk), h⟩, h2, (fun p hp => by cases hp), List.nodup_nil, ⟨List.Pairwise.nil, (fun f hf => by cases hf), by decide⟩, ⟨by omega, hN, fun p hp => by cases hp⟩, hb.trans ⟨hB1.os, hB1.tape, hB1.output, hB1.size, fun k hk => hB1.block k (by omega)⟩⟩
  have HD := Lib.hid hD
  have HB := Lib.hid hB1
  clear hD hB1
  go_enter Try.func8, Try.ntmps8
  go_wp2_with fail
  go_ret
  exact ⟨_, _, rfl, HD.out, HB.out⟩
end Go.Proofs.Ytopdhefhagckoaa
