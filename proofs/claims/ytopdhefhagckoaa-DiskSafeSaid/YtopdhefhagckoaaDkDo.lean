/- disk's law: Do: a call of both. -/
import Derived.Test.YtopdhefhagckoaaDkBoth
import Derived.Test.YtopdhefhagckoaaCReg
namespace Go.Proofs.Ytopdhefhagckoaa
open Go.RowKit Go.Maps Go.Sort
set_option maxHeartbeats 8000000
set_option maxRecDepth 4000
/-- a call of the disk, a call of the reference -/
def CallD (N : Nat) (w : World) (bd bm bx : Nat) (O : Nat → Prop) (f : FuncId) (args : Array Value) (g : DS → DS × Int) : Prop :=
  ∀ W d1 d2, Both N w W bd bm bx d1 d2 O → Calls Try.prog f args W fun e w' => e = .returned (.int .i64 (g d1).2) ∧ BothTo N w W w' bd bm bx (g d1).1 d2 O
def CallX (N : Nat) (w : World) (bd bm bx : Nat) (O : Nat → Prop) (f : FuncId) (args : Array Value) (g : DS → DS × Int) : Prop :=
  ∀ W d1 d2, Both N w W bd bm bx d1 d2 O → Calls Try.prog f args W fun e w' => e = .returned (.int .i64 (g d2).2) ∧ BothTo N w W w' bd bm bx d1 (g d2).1 O
theorem Both.xcrash {N : Nat} {w : World} {bd bm bx : Nat} {d1 d2 : DS} {O : Nat → Prop} (W : World) (h : Both N w W bd bm bx d1 d2 O) (u : Value) (ks : List Int) (hk : RdIn W u (ks.map fun k => .int .i64 k) O) :
    Calls Try.prog 36 #[.pointer (some ⟨bx, 0, none⟩), u] W fun e w' => e = .returned (.tuple #[]) ∧ BothTo N w W w' bd bm bx d1 (d2.crash ks) O := by
  obtain ⟨pl, left, v, hs, hD, hX, hd, hO⟩ := h
  exact (xcrash_any W hX u ks (hk.mono fun b _ hb => (hO b hb).2.2)).mono fun e w' h => ⟨h.1, Both.xto hs hD hX hd hO h.2⟩
theorem Both.dcrash {N : Nat} {w : World} {bd bm bx : Nat} {d1 d2 : DS} {O : Nat → Prop} (W : World) (h : Both N w W bd bm bx d1 d2 O) (u : Value) (ks : List Int) (hk : RdIn W u (ks.map fun k => .int .i64 k) O) :
    Calls Try.prog 15 #[.pointer (some ⟨bd, 0, none⟩), u] W fun e w' => e = .returned (.int .i64 0) ∧ BothTo N w W w' bd bm bx (d1.crash ks) d2 O := by
  obtain ⟨pl, left, v, rfl, hD, hX, hd, hO⟩ := h
  exact (crash_any W hD u ks (hk.mono fun b _ hb => (hO b hb).2.1)).mono fun e w' h => ⟨h.1, Both.dto hD hX hd hO h.2⟩
theorem do_any {N : Nat} {w W : World} {bd bm bx : Nat} {d1 d2 : DS} {O : Nat → Prop} (h : Both N w W bd bm bx d1 d2 O) (x : A9) (hx1 : x.a.name.size ≤ 140737488351232) (hx2 : x.a.to_.size ≤ 140737488351232) (hx3 : x.a.s.size ≤ 140737488351232) (hx4 : x.a.n ≤ 9223372036854775807) (hx5 : RdIn W x.v (x.a.keep.map fun k => .int .i64 k) O) :
    Calls Try.prog 16 #[.pointer (some ⟨bd, 0, none⟩), .pointer (some ⟨bx, 0, none⟩), .agg x.cells.toArray] W fun e w' => e = .returned (.bool ((d1.step x.a).2 == (d2.step x.a).2)) ∧ BothTo N w W w' bd bm bx (d1.step x.a).1 (d2.step x.a).1 O := by
  obtain ⟨⟨kd, nm, to_, s, n, ks⟩, v⟩ := x
  dsimp only at hx1 hx2 hx3 hx4 hx5
  show Calls Try.prog 16 #[.pointer (some ⟨bd, 0, none⟩), .pointer (some ⟨bx, 0, none⟩), .agg #[.int .i64 kd, .string nm, .string to_, .string s, .int .i64 n, v]] W _
  have hr0 : (W.alloc (.cells #[.int .i64 kd, .string nm, .string to_, .string s, .int .i64 n, v] 36)).heap[W.heap.size]? = some (.cells #[.int .i64 kd, .string nm, .string to_, .string s, .int .i64 n, v] 36 (0, 0)) := heap_alloc_new W _
  have HB0 := Lib.hid (h.alloc (.cells #[.int .i64 kd, .string nm, .string to_, .string s, .int .i64 n, v] 36))
  have HZ : Hid (W.heap.size ≤ (W.alloc (.cells #[.int .i64 kd, .string nm, .string to_, .string s, .int .i64 n, v] 36)).heap.size) := show _ ≤ _ from by simp
  have HK0 : Hid (∀ k, O k → (W.alloc (.cells #[.int .i64 kd, .string nm, .string to_, .string s, .int .i64 n, v] 36)).heap[k]? = W.heap[k]?) := show ∀ k, _ from fun k hk => (h.next (bw_alloc (Below.refl _ _) _)).keep k hk
  obtain ⟨b, hb⟩ : ∃ b, b = W.heap.size := ⟨_, rfl⟩
  obtain ⟨w1, hw1⟩ : ∃ w1, w1 = W.alloc (.cells #[.int .i64 kd, .string nm, .string to_, .string s, .int .i64 n, v] 36) := ⟨_, rfl⟩
  obtain ⟨O', hO'⟩ : ∃ O' : Nat → Prop, O' = fun k => O k ∨ k = b := ⟨_, rfl⟩
  rw [← hb] at hr0 HB0
  rw [← hw1] at HB0 HZ HK0 hr0
  rw [← hO'] at HB0
  have HOB : Hid (O' b) := show O' b from by rw [hO']; exact .inr rfl
  have HOO : Hid (∀ k, O k → O' k) := show ∀ k, _ from fun k hk => by rw [hO']; exact .inl hk
  have c0 : w1.cell? ⟨b, 0, none⟩ = some (.int .i64 kd) := by rw [cell_of_row _ _ _ _ _ _ hr0]; rfl
  have c1 : w1.cell? ⟨b, 1, none⟩ = some (.string nm) := by rw [cell_of_row _ _ _ _ _ _ hr0]; rfl
  have c2 : w1.cell? ⟨b, 2, none⟩ = some (.string to_) := by rw [cell_of_row _ _ _ _ _ _ hr0]; rfl
  have c3 : w1.cell? ⟨b, 3, none⟩ = some (.string s) := by rw [cell_of_row _ _ _ _ _ _ hr0]; rfl
  have c4 : w1.cell? ⟨b, 4, none⟩ = some (.int .i64 n) := by rw [cell_of_row _ _ _ _ _ _ hr0]; rfl
  have c5 : w1.cell? ⟨b, 5, none⟩ = some v := by rw [cell_of_row _ _ _ _ _ _ hr0]; rfl
  have HR0 := Lib.hid hr0
  have KEEP : Hid (∀ w' : World, w'.heap[b]? = w1.heap[b]? → w'.cell? ⟨b, 1, none⟩ = some (.string nm) ∧ w'.cell? ⟨b, 2, none⟩ = some (.string to_) ∧ w'.cell? ⟨b, 3, none⟩ = some (.string s) ∧ w'.cell? ⟨b, 4, none⟩ = some (.int .i64 n)) := show ∀ w' : World, _ from fun w' hw => ⟨(cell_of_heap hw 1).trans c1, (cell_of_heap hw 2).trans c2, (cell_of_heap hw 3).trans c3, (cell_of_heap hw 4).trans c4⟩
  have HW1 := Lib.hid hw1
  have HBB := Lib.hid hb
  clear h hr0 hO' hb
  have HST : Hid (∀ (d : DS), d.step ⟨kd, nm, to_, s, n, ks⟩ = if kd = 0 ∨ kd = 1 then d.append nm.data.toList s else if kd = 2 then d.sync nm.data.toList else if kd = 3 then d.rename nm.data.toList to_.data.toList else if kd = 4 then d.remove nm.data.toList else if kd = 5 then d.arm n else (d.crash ks, 0)) := show ∀ d, _ from fun d => rfl
  obtain ⟨r1, hr1⟩ : ∃ r, r = d1.step ⟨kd, nm, to_, s, n, ks⟩ := ⟨_, rfl⟩
  obtain ⟨r2, hr2⟩ : ∃ r, r = d2.step ⟨kd, nm, to_, s, n, ks⟩ := ⟨_, rfl⟩
  rw [← hr1, ← hr2]
  have hs1 := hr1.trans (HST.out d1)
  have hs2 := hr2.trans (HST.out d2)
  clear hr1 hr2 HST
  by_cases k0 : kd = 0 ∨ kd = 1
  · rw [if_pos k0] at hs1 hs2
    have HCD : Hid (CallD N w bd bm bx O' 12 #[.pointer (some ⟨bd, 0, none⟩), .string nm, .string s] (fun d => d.append nm.data.toList s)) := show CallD _ _ _ _ _ _ _ _ _ from fun W e1 e2 hB => Both.calls1 (g := fun d => d.append nm.data.toList s) (fun W pl left hD => append_any W hD nm s (by omega) hx3) W hB
    have HCX : Hid (CallX N w bd bm bx O' 31 #[.pointer (some ⟨bx, 0, none⟩), .string nm, .string s] (fun d => d.append nm.data.toList s)) := show CallX _ _ _ _ _ _ _ _ _ from fun W e1 e2 hB => Both.calls2 (g := fun d => d.append nm.data.toList s) (fun W v d hX => xappend_any W hX nm s (by omega) hx3) W hB
    clear hx1 hx2 hx3 hx4 hx5
    rcases k0 with rfl | rfl
    · go_enter Try.func16, Try.ntmps16
      go_wp2_with fail
      rw [← HW1.out, ← HBB.out]
      clear hw1
      have HS1 := Lib.hid hs1
      have HS2 := Lib.hid hs2
      clear hs1 hs2
      go_wp2_with fail
      refine wp_region_held_drew (S := fun W => W.cell? ⟨b, 1, none⟩ = some (.string nm) ∧ W.cell? ⟨b, 2, none⟩ = some (.string to_) ∧ W.cell? ⟨b, 3, none⟩ = some (.string s) ∧ W.cell? ⟨b, 4, none⟩ = some (.int .i64 n)) (by kernel_rfl) ⟨c1, c2, c3, c4⟩ (fun _ => ?_)
      clear c0 c1 c2 c3 c4 c5
      refine rg_gen (i := 0) (v := ?_) rfl (by kernel_rfl) (by kernel_rfl) (by kernel_rfl) (fun _ _ _ h => h) rfl (by rfl) ?_ (by assumption) ?_
      rotate_left
      · intro w hSw
        try dsimp only at hSw
        go_simp
        try with_reducible rfl
      try simp only [Act.put, List.setIfInBounds_toArray, List.set_cons_zero, List.set_cons_succ]
      refine rg_gen (i := 1) (v := ?_) rfl (by kernel_rfl) (by kernel_rfl) (by kernel_rfl) (fun _ _ _ h => h) rfl (by rfl) ?_ (by assumption) ?_
      rotate_left
      · intro w hSw
        try dsimp only at hSw
        go_simp
        try with_reducible rfl
      try simp only [Act.put, List.setIfInBounds_toArray, List.set_cons_zero, List.set_cons_succ]
      refine rg_gen (i := 2) (v := ?_) rfl (by kernel_rfl) (by kernel_rfl) (by kernel_rfl) (fun _ _ _ h => h) rfl (by rfl) ?_ (by assumption) ?_
      rotate_left
      · intro w hSw
        try dsimp only at hSw
        go_simp
        try with_reducible rfl
      try simp only [Act.put, List.setIfInBounds_toArray, List.set_cons_zero, List.set_cons_succ]
      refine rg_gen (i := 3) (v := ?_) rfl (by kernel_rfl) (by kernel_rfl) (by kernel_rfl) (fun _ _ _ h => h) rfl (by rfl) ?_ (by assumption) ?_
      rotate_left
      · intro w hSw
        try dsimp only at hSw
        go_simp
        try with_reducible rfl
      try simp only [Act.put, List.setIfInBounds_toArray, List.set_cons_zero, List.set_cons_succ]
      refine rg_gen (i := 4) (v := ?_) rfl (by kernel_rfl) (by kernel_rfl) (by kernel_rfl) (fun _ _ _ h => h) rfl (by rfl) ?_ (by assumption) ?_
      rotate_left
      · intro w hSw
        try dsimp only at hSw
        go_simp
        try with_reducible rfl
      try simp only [Act.put, List.setIfInBounds_toArray, List.set_cons_zero, List.set_cons_succ]
      refine rg_gen (i := 6) (v := ?_) rfl (by kernel_rfl) (by kernel_rfl) (by kernel_rfl) (fun _ _ _ h => h) rfl (by rfl) ?_ (by assumption) ?_
      rotate_left
      · intro w hSw
        try dsimp only at hSw
        go_simp
        try with_reducible rfl
      try simp only [Act.put, List.setIfInBounds_toArray, List.set_cons_zero, List.set_cons_succ]
      refine rg_gen (i := 7) (v := ?_) rfl (by kernel_rfl) (by kernel_rfl) (by kernel_rfl) (fun _ _ _ h => h) rfl (by rfl) ?_ (by assumption) ?_
      rotate_left
      · intro w hSw
        try dsimp only at hSw
        go_simp
        try with_reducible rfl
      try simp only [Act.put, List.setIfInBounds_toArray, List.set_cons_zero, List.set_cons_succ]
      refine rg_gen (i := 8) (v := ?_) rfl (by kernel_rfl) (by kernel_rfl) (by kernel_rfl) (fun _ _ _ h => h) rfl (by rfl) ?_ (by assumption) ?_
      rotate_left
      · intro w hSw
        try dsimp only at hSw
        go_simp
        try with_reducible rfl
      try simp only [Act.put, List.setIfInBounds_toArray, List.set_cons_zero, List.set_cons_succ]
      refine rg_gen (i := 9) (v := ?_) rfl (by kernel_rfl) (by kernel_rfl) (by kernel_rfl) (fun _ _ _ h => h) rfl (by rfl) ?_ (by assumption) ?_
      rotate_left
      · intro w hSw
        try dsimp only at hSw
        go_simp
        try with_reducible rfl
      try simp only [Act.put, List.setIfInBounds_toArray, List.set_cons_zero, List.set_cons_succ]
      refine rg_gen (i := 10) (v := ?_) rfl (by kernel_rfl) (by kernel_rfl) (by kernel_rfl) (fun _ _ _ h => h) rfl (by rfl) ?_ (by assumption) ?_
      rotate_left
      · intro w hSw
        try dsimp only at hSw
        go_simp
        try with_reducible rfl
      try simp only [Act.put, List.setIfInBounds_toArray, List.set_cons_zero, List.set_cons_succ]
      have HBW : Hid (BothTo N w w1 w1.drew bd bm bx d1 d2 O') := show BothTo _ _ _ _ _ _ _ _ _ _ from HB0.out.next (Below.refl _ _).drew
      refine rg_one (i := 5) (by kernel_rfl) rfl (fun K hK => ?_)
      go_simp
      go_at_call 12
      refine (HCD.out _ _ _ HBW.out.both).mono ?_
      rintro e w3 ⟨rfl, hB3⟩
      go_wp2_with fail
      refine hK.out _ _ (KEEP.out _ ((hB3.keep _ HOB.out).trans (HBW.out.keep _ HOB.out))) (fun _ => ?_)
      clear hK K
      try simp only [Act.put, List.setIfInBounds_toArray, List.set_cons_zero, List.set_cons_succ]
      have HB3 := Lib.hid (HBW.out.trans hB3)
      clear hB3
      refine rg_one (i := 11) (by kernel_rfl) rfl (fun K hK => ?_)
      go_simp
      go_at_call 31
      refine (HCX.out _ _ _ HB3.out.both).mono ?_
      rintro e w4 ⟨rfl, hB4⟩
      go_wp2_with fail
      refine hK.out _ _ (KEEP.out _ ((hB4.keep _ HOB.out).trans (HB3.out.keep _ HOB.out))) (fun _ => ?_)
      clear hK K
      try simp only [Act.put, List.setIfInBounds_toArray, List.set_cons_zero, List.set_cons_succ]
      have HB4 := Lib.hid (HB3.out.trans hB4)
      clear hB4
      refine rg_gen (i := 12) (v := ?_) rfl (by kernel_rfl) (by kernel_rfl) (by kernel_rfl) (fun _ _ _ h => h) rfl (by rfl) ?_ (by assumption) ?_
      rotate_left
      · intro w hSw
        try dsimp only at hSw
        go_simp
        try with_reducible rfl
      try simp only [Act.put, List.setIfInBounds_toArray, List.set_cons_zero, List.set_cons_succ]
      refine rg_one (i := 13) (by kernel_rfl) rfl (fun K hK => ?_)
      go_simp
      refine hK.out _ _ (by assumption) (fun _ => ?_)
      clear hK K
      refine wpAnyH_done (by kernel_rfl) ?_ _
      go_wp2_with fail
      go_ret
      refine ⟨by rw [HS1.out, HS2.out]; rfl, ?_⟩
      rw [HS1.out, HS2.out]
      have h9 := HB4.out.less HOO.out
      exact ⟨h9.both, Nat.le_trans HZ.out h9.size, fun k hk => (h9.keep k hk).trans (HK0.out k hk)⟩
    · go_enter Try.func16, Try.ntmps16
      go_wp2_with fail
      rw [← HW1.out, ← HBB.out]
      clear hw1
      have HS1 := Lib.hid hs1
      have HS2 := Lib.hid hs2
      clear hs1 hs2
      go_wp2_with fail
      refine wp_region_held_drew (S := fun W => W.cell? ⟨b, 1, none⟩ = some (.string nm) ∧ W.cell? ⟨b, 2, none⟩ = some (.string to_) ∧ W.cell? ⟨b, 3, none⟩ = some (.string s) ∧ W.cell? ⟨b, 4, none⟩ = some (.int .i64 n)) (by kernel_rfl) ⟨c1, c2, c3, c4⟩ (fun _ => ?_)
      clear c0 c1 c2 c3 c4 c5
      refine rg_gen (i := 0) (v := ?_) rfl (by kernel_rfl) (by kernel_rfl) (by kernel_rfl) (fun _ _ _ h => h) rfl (by rfl) ?_ (by assumption) ?_
      rotate_left
      · intro w hSw
        try dsimp only at hSw
        go_simp
        try with_reducible rfl
      try simp only [Act.put, List.setIfInBounds_toArray, List.set_cons_zero, List.set_cons_succ]
      refine rg_gen (i := 1) (v := ?_) rfl (by kernel_rfl) (by kernel_rfl) (by kernel_rfl) (fun _ _ _ h => h) rfl (by rfl) ?_ (by assumption) ?_
      rotate_left
      · intro w hSw
        try dsimp only at hSw
        go_simp
        try with_reducible rfl
      try simp only [Act.put, List.setIfInBounds_toArray, List.set_cons_zero, List.set_cons_succ]
      refine rg_gen (i := 2) (v := ?_) rfl (by kernel_rfl) (by kernel_rfl) (by kernel_rfl) (fun _ _ _ h => h) rfl (by rfl) ?_ (by assumption) ?_
      rotate_left
      · intro w hSw
        try dsimp only at hSw
        go_simp
        try with_reducible rfl
      try simp only [Act.put, List.setIfInBounds_toArray, List.set_cons_zero, List.set_cons_succ]
      refine rg_gen (i := 3) (v := ?_) rfl (by kernel_rfl) (by kernel_rfl) (by kernel_rfl) (fun _ _ _ h => h) rfl (by rfl) ?_ (by assumption) ?_
      rotate_left
      · intro w hSw
        try dsimp only at hSw
        go_simp
        try with_reducible rfl
      try simp only [Act.put, List.setIfInBounds_toArray, List.set_cons_zero, List.set_cons_succ]
      refine rg_gen (i := 4) (v := ?_) rfl (by kernel_rfl) (by kernel_rfl) (by kernel_rfl) (fun _ _ _ h => h) rfl (by rfl) ?_ (by assumption) ?_
      rotate_left
      · intro w hSw
        try dsimp only at hSw
        go_simp
        try with_reducible rfl
      try simp only [Act.put, List.setIfInBounds_toArray, List.set_cons_zero, List.set_cons_succ]
      refine rg_gen (i := 6) (v := ?_) rfl (by kernel_rfl) (by kernel_rfl) (by kernel_rfl) (fun _ _ _ h => h) rfl (by rfl) ?_ (by assumption) ?_
      rotate_left
      · intro w hSw
        try dsimp only at hSw
        go_simp
        try with_reducible rfl
      try simp only [Act.put, List.setIfInBounds_toArray, List.set_cons_zero, List.set_cons_succ]
      refine rg_gen (i := 7) (v := ?_) rfl (by kernel_rfl) (by kernel_rfl) (by kernel_rfl) (fun _ _ _ h => h) rfl (by rfl) ?_ (by assumption) ?_
      rotate_left
      · intro w hSw
        try dsimp only at hSw
        go_simp
        try with_reducible rfl
      try simp only [Act.put, List.setIfInBounds_toArray, List.set_cons_zero, List.set_cons_succ]
      refine rg_gen (i := 8) (v := ?_) rfl (by kernel_rfl) (by kernel_rfl) (by kernel_rfl) (fun _ _ _ h => h) rfl (by rfl) ?_ (by assumption) ?_
      rotate_left
      · intro w hSw
        try dsimp only at hSw
        go_simp
        try with_reducible rfl
      try simp only [Act.put, List.setIfInBounds_toArray, List.set_cons_zero, List.set_cons_succ]
      refine rg_gen (i := 9) (v := ?_) rfl (by kernel_rfl) (by kernel_rfl) (by kernel_rfl) (fun _ _ _ h => h) rfl (by rfl) ?_ (by assumption) ?_
      rotate_left
      · intro w hSw
        try dsimp only at hSw
        go_simp
        try with_reducible rfl
      try simp only [Act.put, List.setIfInBounds_toArray, List.set_cons_zero, List.set_cons_succ]
      refine rg_gen (i := 10) (v := ?_) rfl (by kernel_rfl) (by kernel_rfl) (by kernel_rfl) (fun _ _ _ h => h) rfl (by rfl) ?_ (by assumption) ?_
      rotate_left
      · intro w hSw
        try dsimp only at hSw
        go_simp
        try with_reducible rfl
      try simp only [Act.put, List.setIfInBounds_toArray, List.set_cons_zero, List.set_cons_succ]
      have HBW : Hid (BothTo N w w1 w1.drew bd bm bx d1 d2 O') := show BothTo _ _ _ _ _ _ _ _ _ _ from HB0.out.next (Below.refl _ _).drew
      refine rg_one (i := 5) (by kernel_rfl) rfl (fun K hK => ?_)
      go_simp
      go_at_call 12
      refine (HCD.out _ _ _ HBW.out.both).mono ?_
      rintro e w3 ⟨rfl, hB3⟩
      go_wp2_with fail
      refine hK.out _ _ (KEEP.out _ ((hB3.keep _ HOB.out).trans (HBW.out.keep _ HOB.out))) (fun _ => ?_)
      clear hK K
      try simp only [Act.put, List.setIfInBounds_toArray, List.set_cons_zero, List.set_cons_succ]
      have HB3 := Lib.hid (HBW.out.trans hB3)
      clear hB3
      refine rg_one (i := 11) (by kernel_rfl) rfl (fun K hK => ?_)
      go_simp
      go_at_call 31
      refine (HCX.out _ _ _ HB3.out.both).mono ?_
      rintro e w4 ⟨rfl, hB4⟩
      go_wp2_with fail
      refine hK.out _ _ (KEEP.out _ ((hB4.keep _ HOB.out).trans (HB3.out.keep _ HOB.out))) (fun _ => ?_)
      clear hK K
      try simp only [Act.put, List.setIfInBounds_toArray, List.set_cons_zero, List.set_cons_succ]
      have HB4 := Lib.hid (HB3.out.trans hB4)
      clear hB4
      refine rg_gen (i := 12) (v := ?_) rfl (by kernel_rfl) (by kernel_rfl) (by kernel_rfl) (fun _ _ _ h => h) rfl (by rfl) ?_ (by assumption) ?_
      rotate_left
      · intro w hSw
        try dsimp only at hSw
        go_simp
        try with_reducible rfl
      try simp only [Act.put, List.setIfInBounds_toArray, List.set_cons_zero, List.set_cons_succ]
      refine rg_one (i := 13) (by kernel_rfl) rfl (fun K hK => ?_)
      go_simp
      refine hK.out _ _ (by assumption) (fun _ => ?_)
      clear hK K
      refine wpAnyH_done (by kernel_rfl) ?_ _
      go_wp2_with fail
      go_ret
      refine ⟨by rw [HS1.out, HS2.out]; rfl, ?_⟩
      rw [HS1.out, HS2.out]
      have h9 := HB4.out.less HOO.out
      exact ⟨h9.both, Nat.le_trans HZ.out h9.size, fun k hk => (h9.keep k hk).trans (HK0.out k hk)⟩
  · rw [if_neg k0] at hs1 hs2
    by_cases k2 : kd = 2
    · rw [if_pos k2] at hs1 hs2
      have HCD : Hid (CallD N w bd bm bx O' 13 #[.pointer (some ⟨bd, 0, none⟩), .string nm] (fun d => d.sync nm.data.toList)) := show CallD _ _ _ _ _ _ _ _ _ from fun W e1 e2 hB => Both.calls1 (g := fun d => d.sync nm.data.toList) (fun W pl left hD => sync_any W hD nm (by omega)) W hB
      have HCX : Hid (CallX N w bd bm bx O' 32 #[.pointer (some ⟨bx, 0, none⟩), .string nm] (fun d => d.sync nm.data.toList)) := show CallX _ _ _ _ _ _ _ _ _ from fun W e1 e2 hB => Both.calls2 (g := fun d => d.sync nm.data.toList) (fun W v d hX => xsync_any W hX nm) W hB
      subst k2
      clear hx1 hx2 hx3 hx4 hx5 k0
      go_enter Try.func16, Try.ntmps16
      go_wp2_with fail
      rw [← HW1.out, ← HBB.out]
      clear hw1
      have HS1 := Lib.hid hs1
      have HS2 := Lib.hid hs2
      clear hs1 hs2
      go_wp2_with fail
      refine wp_region_held_drew (S := fun W => W.cell? ⟨b, 1, none⟩ = some (.string nm) ∧ W.cell? ⟨b, 2, none⟩ = some (.string to_) ∧ W.cell? ⟨b, 3, none⟩ = some (.string s) ∧ W.cell? ⟨b, 4, none⟩ = some (.int .i64 n)) (by kernel_rfl) ⟨c1, c2, c3, c4⟩ (fun _ => ?_)
      clear c0 c1 c2 c3 c4 c5
      refine rg_gen (i := 0) (v := ?_) rfl (by kernel_rfl) (by kernel_rfl) (by kernel_rfl) (fun _ _ _ h => h) rfl (by rfl) ?_ (by assumption) ?_
      rotate_left
      · intro w hSw
        try dsimp only at hSw
        go_simp
        try with_reducible rfl
      try simp only [Act.put, List.setIfInBounds_toArray, List.set_cons_zero, List.set_cons_succ]
      refine rg_gen (i := 1) (v := ?_) rfl (by kernel_rfl) (by kernel_rfl) (by kernel_rfl) (fun _ _ _ h => h) rfl (by rfl) ?_ (by assumption) ?_
      rotate_left
      · intro w hSw
        try dsimp only at hSw
        go_simp
        try with_reducible rfl
      try simp only [Act.put, List.setIfInBounds_toArray, List.set_cons_zero, List.set_cons_succ]
      refine rg_gen (i := 2) (v := ?_) rfl (by kernel_rfl) (by kernel_rfl) (by kernel_rfl) (fun _ _ _ h => h) rfl (by rfl) ?_ (by assumption) ?_
      rotate_left
      · intro w hSw
        try dsimp only at hSw
        go_simp
        try with_reducible rfl
      try simp only [Act.put, List.setIfInBounds_toArray, List.set_cons_zero, List.set_cons_succ]
      refine rg_gen (i := 4) (v := ?_) rfl (by kernel_rfl) (by kernel_rfl) (by kernel_rfl) (fun _ _ _ h => h) rfl (by rfl) ?_ (by assumption) ?_
      rotate_left
      · intro w hSw
        try dsimp only at hSw
        go_simp
        try with_reducible rfl
      try simp only [Act.put, List.setIfInBounds_toArray, List.set_cons_zero, List.set_cons_succ]
      refine rg_gen (i := 5) (v := ?_) rfl (by kernel_rfl) (by kernel_rfl) (by kernel_rfl) (fun _ _ _ h => h) rfl (by rfl) ?_ (by assumption) ?_
      rotate_left
      · intro w hSw
        try dsimp only at hSw
        go_simp
        try with_reducible rfl
      try simp only [Act.put, List.setIfInBounds_toArray, List.set_cons_zero, List.set_cons_succ]
      refine rg_gen (i := 6) (v := ?_) rfl (by kernel_rfl) (by kernel_rfl) (by kernel_rfl) (fun _ _ _ h => h) rfl (by rfl) ?_ (by assumption) ?_
      rotate_left
      · intro w hSw
        try dsimp only at hSw
        go_simp
        try with_reducible rfl
      try simp only [Act.put, List.setIfInBounds_toArray, List.set_cons_zero, List.set_cons_succ]
      have HBW : Hid (BothTo N w w1 w1.drew bd bm bx d1 d2 O') := show BothTo _ _ _ _ _ _ _ _ _ _ from HB0.out.next (Below.refl _ _).drew
      refine rg_one (i := 3) (by kernel_rfl) rfl (fun K hK => ?_)
      go_simp
      go_at_call 13
      refine (HCD.out _ _ _ HBW.out.both).mono ?_
      rintro e w3 ⟨rfl, hB3⟩
      go_wp2_with fail
      refine hK.out _ _ (KEEP.out _ ((hB3.keep _ HOB.out).trans (HBW.out.keep _ HOB.out))) (fun _ => ?_)
      clear hK K
      try simp only [Act.put, List.setIfInBounds_toArray, List.set_cons_zero, List.set_cons_succ]
      have HB3 := Lib.hid (HBW.out.trans hB3)
      clear hB3
      refine rg_one (i := 7) (by kernel_rfl) rfl (fun K hK => ?_)
      go_simp
      go_at_call 32
      refine (HCX.out _ _ _ HB3.out.both).mono ?_
      rintro e w4 ⟨rfl, hB4⟩
      go_wp2_with fail
      refine hK.out _ _ (KEEP.out _ ((hB4.keep _ HOB.out).trans (HB3.out.keep _ HOB.out))) (fun _ => ?_)
      clear hK K
      try simp only [Act.put, List.setIfInBounds_toArray, List.set_cons_zero, List.set_cons_succ]
      have HB4 := Lib.hid (HB3.out.trans hB4)
      clear hB4
      refine rg_gen (i := 8) (v := ?_) rfl (by kernel_rfl) (by kernel_rfl) (by kernel_rfl) (fun _ _ _ h => h) rfl (by rfl) ?_ (by assumption) ?_
      rotate_left
      · intro w hSw
        try dsimp only at hSw
        go_simp
        try with_reducible rfl
      try simp only [Act.put, List.setIfInBounds_toArray, List.set_cons_zero, List.set_cons_succ]
      refine rg_one (i := 9) (by kernel_rfl) rfl (fun K hK => ?_)
      go_simp
      refine hK.out _ _ (by assumption) (fun _ => ?_)
      clear hK K
      refine wpAnyH_done (by kernel_rfl) ?_ _
      go_wp2_with fail
      go_ret
      refine ⟨by rw [HS1.out, HS2.out]; rfl, ?_⟩
      rw [HS1.out, HS2.out]
      have h9 := HB4.out.less HOO.out
      exact ⟨h9.both, Nat.le_trans HZ.out h9.size, fun k hk => (h9.keep k hk).trans (HK0.out k hk)⟩
    · rw [if_neg k2] at hs1 hs2
      by_cases k3 : kd = 3
      · rw [if_pos k3] at hs1 hs2
        have HCD : Hid (CallD N w bd bm bx O' 24 #[.pointer (some ⟨bd, 0, none⟩), .string nm, .string to_] (fun d => d.rename nm.data.toList to_.data.toList)) := show CallD _ _ _ _ _ _ _ _ _ from fun W e1 e2 hB => Both.calls1 (g := fun d => d.rename nm.data.toList to_.data.toList) (fun W pl left hD => rename_any W hD nm to_ (by omega) (by omega)) W hB
        have HCX : Hid (CallX N w bd bm bx O' 33 #[.pointer (some ⟨bx, 0, none⟩), .string nm, .string to_] (fun d => d.rename nm.data.toList to_.data.toList)) := show CallX _ _ _ _ _ _ _ _ _ from fun W e1 e2 hB => Both.calls2 (g := fun d => d.rename nm.data.toList to_.data.toList) (fun W v d hX => xrename_any W hX nm to_ (by omega)) W hB
        subst k3
        clear hx1 hx2 hx3 hx4 hx5 k0 k2
        go_enter Try.func16, Try.ntmps16
        go_wp2_with fail
        rw [← HW1.out, ← HBB.out]
        clear hw1
        have HS1 := Lib.hid hs1
        have HS2 := Lib.hid hs2
        clear hs1 hs2
        go_wp2_with fail
        refine wp_region_held_drew (S := fun W => W.cell? ⟨b, 1, none⟩ = some (.string nm) ∧ W.cell? ⟨b, 2, none⟩ = some (.string to_) ∧ W.cell? ⟨b, 3, none⟩ = some (.string s) ∧ W.cell? ⟨b, 4, none⟩ = some (.int .i64 n)) (by kernel_rfl) ⟨c1, c2, c3, c4⟩ (fun _ => ?_)
        clear c0 c1 c2 c3 c4 c5
        refine rg_gen (i := 0) (v := ?_) rfl (by kernel_rfl) (by kernel_rfl) (by kernel_rfl) (fun _ _ _ h => h) rfl (by rfl) ?_ (by assumption) ?_
        rotate_left
        · intro w hSw
          try dsimp only at hSw
          go_simp
          try with_reducible rfl
        try simp only [Act.put, List.setIfInBounds_toArray, List.set_cons_zero, List.set_cons_succ]
        refine rg_gen (i := 1) (v := ?_) rfl (by kernel_rfl) (by kernel_rfl) (by kernel_rfl) (fun _ _ _ h => h) rfl (by rfl) ?_ (by assumption) ?_
        rotate_left
        · intro w hSw
          try dsimp only at hSw
          go_simp
          try with_reducible rfl
        try simp only [Act.put, List.setIfInBounds_toArray, List.set_cons_zero, List.set_cons_succ]
        refine rg_gen (i := 2) (v := ?_) rfl (by kernel_rfl) (by kernel_rfl) (by kernel_rfl) (fun _ _ _ h => h) rfl (by rfl) ?_ (by assumption) ?_
        rotate_left
        · intro w hSw
          try dsimp only at hSw
          go_simp
          try with_reducible rfl
        try simp only [Act.put, List.setIfInBounds_toArray, List.set_cons_zero, List.set_cons_succ]
        refine rg_gen (i := 3) (v := ?_) rfl (by kernel_rfl) (by kernel_rfl) (by kernel_rfl) (fun _ _ _ h => h) rfl (by rfl) ?_ (by assumption) ?_
        rotate_left
        · intro w hSw
          try dsimp only at hSw
          go_simp
          try with_reducible rfl
        try simp only [Act.put, List.setIfInBounds_toArray, List.set_cons_zero, List.set_cons_succ]
        refine rg_gen (i := 4) (v := ?_) rfl (by kernel_rfl) (by kernel_rfl) (by kernel_rfl) (fun _ _ _ h => h) rfl (by rfl) ?_ (by assumption) ?_
        rotate_left
        · intro w hSw
          try dsimp only at hSw
          go_simp
          try with_reducible rfl
        try simp only [Act.put, List.setIfInBounds_toArray, List.set_cons_zero, List.set_cons_succ]
        refine rg_gen (i := 6) (v := ?_) rfl (by kernel_rfl) (by kernel_rfl) (by kernel_rfl) (fun _ _ _ h => h) rfl (by rfl) ?_ (by assumption) ?_
        rotate_left
        · intro w hSw
          try dsimp only at hSw
          go_simp
          try with_reducible rfl
        try simp only [Act.put, List.setIfInBounds_toArray, List.set_cons_zero, List.set_cons_succ]
        refine rg_gen (i := 7) (v := ?_) rfl (by kernel_rfl) (by kernel_rfl) (by kernel_rfl) (fun _ _ _ h => h) rfl (by rfl) ?_ (by assumption) ?_
        rotate_left
        · intro w hSw
          try dsimp only at hSw
          go_simp
          try with_reducible rfl
        try simp only [Act.put, List.setIfInBounds_toArray, List.set_cons_zero, List.set_cons_succ]
        refine rg_gen (i := 8) (v := ?_) rfl (by kernel_rfl) (by kernel_rfl) (by kernel_rfl) (fun _ _ _ h => h) rfl (by rfl) ?_ (by assumption) ?_
        rotate_left
        · intro w hSw
          try dsimp only at hSw
          go_simp
          try with_reducible rfl
        try simp only [Act.put, List.setIfInBounds_toArray, List.set_cons_zero, List.set_cons_succ]
        refine rg_gen (i := 9) (v := ?_) rfl (by kernel_rfl) (by kernel_rfl) (by kernel_rfl) (fun _ _ _ h => h) rfl (by rfl) ?_ (by assumption) ?_
        rotate_left
        · intro w hSw
          try dsimp only at hSw
          go_simp
          try with_reducible rfl
        try simp only [Act.put, List.setIfInBounds_toArray, List.set_cons_zero, List.set_cons_succ]
        refine rg_gen (i := 10) (v := ?_) rfl (by kernel_rfl) (by kernel_rfl) (by kernel_rfl) (fun _ _ _ h => h) rfl (by rfl) ?_ (by assumption) ?_
        rotate_left
        · intro w hSw
          try dsimp only at hSw
          go_simp
          try with_reducible rfl
        try simp only [Act.put, List.setIfInBounds_toArray, List.set_cons_zero, List.set_cons_succ]
        have HBW : Hid (BothTo N w w1 w1.drew bd bm bx d1 d2 O') := show BothTo _ _ _ _ _ _ _ _ _ _ from HB0.out.next (Below.refl _ _).drew
        refine rg_one (i := 5) (by kernel_rfl) rfl (fun K hK => ?_)
        go_simp
        go_at_call 24
        refine (HCD.out _ _ _ HBW.out.both).mono ?_
        rintro e w3 ⟨rfl, hB3⟩
        go_wp2_with fail
        refine hK.out _ _ (KEEP.out _ ((hB3.keep _ HOB.out).trans (HBW.out.keep _ HOB.out))) (fun _ => ?_)
        clear hK K
        try simp only [Act.put, List.setIfInBounds_toArray, List.set_cons_zero, List.set_cons_succ]
        have HB3 := Lib.hid (HBW.out.trans hB3)
        clear hB3
        refine rg_one (i := 11) (by kernel_rfl) rfl (fun K hK => ?_)
        go_simp
        go_at_call 33
        refine (HCX.out _ _ _ HB3.out.both).mono ?_
        rintro e w4 ⟨rfl, hB4⟩
        go_wp2_with fail
        refine hK.out _ _ (KEEP.out _ ((hB4.keep _ HOB.out).trans (HB3.out.keep _ HOB.out))) (fun _ => ?_)
        clear hK K
        try simp only [Act.put, List.setIfInBounds_toArray, List.set_cons_zero, List.set_cons_succ]
        have HB4 := Lib.hid (HB3.out.trans hB4)
        clear hB4
        refine rg_gen (i := 12) (v := ?_) rfl (by kernel_rfl) (by kernel_rfl) (by kernel_rfl) (fun _ _ _ h => h) rfl (by rfl) ?_ (by assumption) ?_
        rotate_left
        · intro w hSw
          try dsimp only at hSw
          go_simp
          try with_reducible rfl
        try simp only [Act.put, List.setIfInBounds_toArray, List.set_cons_zero, List.set_cons_succ]
        refine rg_one (i := 13) (by kernel_rfl) rfl (fun K hK => ?_)
        go_simp
        refine hK.out _ _ (by assumption) (fun _ => ?_)
        clear hK K
        refine wpAnyH_done (by kernel_rfl) ?_ _
        go_wp2_with fail
        go_ret
        refine ⟨by rw [HS1.out, HS2.out]; rfl, ?_⟩
        rw [HS1.out, HS2.out]
        have h9 := HB4.out.less HOO.out
        exact ⟨h9.both, Nat.le_trans HZ.out h9.size, fun k hk => (h9.keep k hk).trans (HK0.out k hk)⟩
      · rw [if_neg k3] at hs1 hs2
        by_cases k4 : kd = 4
        · rw [if_pos k4] at hs1 hs2
          have HCD : Hid (CallD N w bd bm bx O' 25 #[.pointer (some ⟨bd, 0, none⟩), .string nm] (fun d => d.remove nm.data.toList)) := show CallD _ _ _ _ _ _ _ _ _ from fun W e1 e2 hB => Both.calls1 (g := fun d => d.remove nm.data.toList) (fun W pl left hD => remove_any W hD nm (by omega)) W hB
          have HCX : Hid (CallX N w bd bm bx O' 34 #[.pointer (some ⟨bx, 0, none⟩), .string nm] (fun d => d.remove nm.data.toList)) := show CallX _ _ _ _ _ _ _ _ _ from fun W e1 e2 hB => Both.calls2 (g := fun d => d.remove nm.data.toList) (fun W v d hX => xremove_any W hX nm) W hB
          subst k4
          clear hx1 hx2 hx3 hx4 hx5 k0 k2 k3
          go_enter Try.func16, Try.ntmps16
          go_wp2_with fail
          rw [← HW1.out, ← HBB.out]
          clear hw1
          have HS1 := Lib.hid hs1
          have HS2 := Lib.hid hs2
          clear hs1 hs2
          go_wp2_with fail
          refine wp_region_held_drew (S := fun W => W.cell? ⟨b, 1, none⟩ = some (.string nm) ∧ W.cell? ⟨b, 2, none⟩ = some (.string to_) ∧ W.cell? ⟨b, 3, none⟩ = some (.string s) ∧ W.cell? ⟨b, 4, none⟩ = some (.int .i64 n)) (by kernel_rfl) ⟨c1, c2, c3, c4⟩ (fun _ => ?_)
          clear c0 c1 c2 c3 c4 c5
          refine rg_gen (i := 0) (v := ?_) rfl (by kernel_rfl) (by kernel_rfl) (by kernel_rfl) (fun _ _ _ h => h) rfl (by rfl) ?_ (by assumption) ?_
          rotate_left
          · intro w hSw
            try dsimp only at hSw
            go_simp
            try with_reducible rfl
          try simp only [Act.put, List.setIfInBounds_toArray, List.set_cons_zero, List.set_cons_succ]
          refine rg_gen (i := 1) (v := ?_) rfl (by kernel_rfl) (by kernel_rfl) (by kernel_rfl) (fun _ _ _ h => h) rfl (by rfl) ?_ (by assumption) ?_
          rotate_left
          · intro w hSw
            try dsimp only at hSw
            go_simp
            try with_reducible rfl
          try simp only [Act.put, List.setIfInBounds_toArray, List.set_cons_zero, List.set_cons_succ]
          refine rg_gen (i := 2) (v := ?_) rfl (by kernel_rfl) (by kernel_rfl) (by kernel_rfl) (fun _ _ _ h => h) rfl (by rfl) ?_ (by assumption) ?_
          rotate_left
          · intro w hSw
            try dsimp only at hSw
            go_simp
            try with_reducible rfl
          try simp only [Act.put, List.setIfInBounds_toArray, List.set_cons_zero, List.set_cons_succ]
          refine rg_gen (i := 4) (v := ?_) rfl (by kernel_rfl) (by kernel_rfl) (by kernel_rfl) (fun _ _ _ h => h) rfl (by rfl) ?_ (by assumption) ?_
          rotate_left
          · intro w hSw
            try dsimp only at hSw
            go_simp
            try with_reducible rfl
          try simp only [Act.put, List.setIfInBounds_toArray, List.set_cons_zero, List.set_cons_succ]
          refine rg_gen (i := 5) (v := ?_) rfl (by kernel_rfl) (by kernel_rfl) (by kernel_rfl) (fun _ _ _ h => h) rfl (by rfl) ?_ (by assumption) ?_
          rotate_left
          · intro w hSw
            try dsimp only at hSw
            go_simp
            try with_reducible rfl
          try simp only [Act.put, List.setIfInBounds_toArray, List.set_cons_zero, List.set_cons_succ]
          refine rg_gen (i := 6) (v := ?_) rfl (by kernel_rfl) (by kernel_rfl) (by kernel_rfl) (fun _ _ _ h => h) rfl (by rfl) ?_ (by assumption) ?_
          rotate_left
          · intro w hSw
            try dsimp only at hSw
            go_simp
            try with_reducible rfl
          try simp only [Act.put, List.setIfInBounds_toArray, List.set_cons_zero, List.set_cons_succ]
          have HBW : Hid (BothTo N w w1 w1.drew bd bm bx d1 d2 O') := show BothTo _ _ _ _ _ _ _ _ _ _ from HB0.out.next (Below.refl _ _).drew
          refine rg_one (i := 3) (by kernel_rfl) rfl (fun K hK => ?_)
          go_simp
          go_at_call 25
          refine (HCD.out _ _ _ HBW.out.both).mono ?_
          rintro e w3 ⟨rfl, hB3⟩
          go_wp2_with fail
          refine hK.out _ _ (KEEP.out _ ((hB3.keep _ HOB.out).trans (HBW.out.keep _ HOB.out))) (fun _ => ?_)
          clear hK K
          try simp only [Act.put, List.setIfInBounds_toArray, List.set_cons_zero, List.set_cons_succ]
          have HB3 := Lib.hid (HBW.out.trans hB3)
          clear hB3
          refine rg_one (i := 7) (by kernel_rfl) rfl (fun K hK => ?_)
          go_simp
          go_at_call 34
          refine (HCX.out _ _ _ HB3.out.both).mono ?_
          rintro e w4 ⟨rfl, hB4⟩
          go_wp2_with fail
          refine hK.out _ _ (KEEP.out _ ((hB4.keep _ HOB.out).trans (HB3.out.keep _ HOB.out))) (fun _ => ?_)
          clear hK K
          try simp only [Act.put, List.setIfInBounds_toArray, List.set_cons_zero, List.set_cons_succ]
          have HB4 := Lib.hid (HB3.out.trans hB4)
          clear hB4
          refine rg_gen (i := 8) (v := ?_) rfl (by kernel_rfl) (by kernel_rfl) (by kernel_rfl) (fun _ _ _ h => h) rfl (by rfl) ?_ (by assumption) ?_
          rotate_left
          · intro w hSw
            try dsimp only at hSw
            go_simp
            try with_reducible rfl
          try simp only [Act.put, List.setIfInBounds_toArray, List.set_cons_zero, List.set_cons_succ]
          refine rg_one (i := 9) (by kernel_rfl) rfl (fun K hK => ?_)
          go_simp
          refine hK.out _ _ (by assumption) (fun _ => ?_)
          clear hK K
          refine wpAnyH_done (by kernel_rfl) ?_ _
          go_wp2_with fail
          go_ret
          refine ⟨by rw [HS1.out, HS2.out]; rfl, ?_⟩
          rw [HS1.out, HS2.out]
          have h9 := HB4.out.less HOO.out
          exact ⟨h9.both, Nat.le_trans HZ.out h9.size, fun k hk => (h9.keep k hk).trans (HK0.out k hk)⟩
        · rw [if_neg k4] at hs1 hs2
          by_cases k5 : kd = 5
          · rw [if_pos k5] at hs1 hs2
            have HCD : Hid (CallD N w bd bm bx O' 10 #[.pointer (some ⟨bd, 0, none⟩), .int .i64 n] (fun d => d.arm n)) := show CallD _ _ _ _ _ _ _ _ _ from fun W e1 e2 hB => Both.calls1 (g := fun d => d.arm n) (fun W pl left hD => arm_any W hD n hx4) W hB
            have HCX : Hid (CallX N w bd bm bx O' 35 #[.pointer (some ⟨bx, 0, none⟩), .int .i64 n] (fun d => d.arm n)) := show CallX _ _ _ _ _ _ _ _ _ from fun W e1 e2 hB => Both.calls2 (g := fun d => d.arm n) (fun W v d hX => xarm_any W hX n hx4) W hB
            subst k5
            clear hx1 hx2 hx3 hx4 hx5 k0 k2 k3 k4
            go_enter Try.func16, Try.ntmps16
            go_wp2_with fail
            rw [← HW1.out, ← HBB.out]
            clear hw1
            have HS1 := Lib.hid hs1
            have HS2 := Lib.hid hs2
            clear hs1 hs2
            go_wp2_with fail
            refine wp_region_held_drew (S := fun W => W.cell? ⟨b, 1, none⟩ = some (.string nm) ∧ W.cell? ⟨b, 2, none⟩ = some (.string to_) ∧ W.cell? ⟨b, 3, none⟩ = some (.string s) ∧ W.cell? ⟨b, 4, none⟩ = some (.int .i64 n)) (by kernel_rfl) ⟨c1, c2, c3, c4⟩ (fun _ => ?_)
            clear c0 c1 c2 c3 c4 c5
            refine rg_gen (i := 0) (v := ?_) rfl (by kernel_rfl) (by kernel_rfl) (by kernel_rfl) (fun _ _ _ h => h) rfl (by rfl) ?_ (by assumption) ?_
            rotate_left
            · intro w hSw
              try dsimp only at hSw
              go_simp
              try with_reducible rfl
            try simp only [Act.put, List.setIfInBounds_toArray, List.set_cons_zero, List.set_cons_succ]
            refine rg_gen (i := 1) (v := ?_) rfl (by kernel_rfl) (by kernel_rfl) (by kernel_rfl) (fun _ _ _ h => h) rfl (by rfl) ?_ (by assumption) ?_
            rotate_left
            · intro w hSw
              try dsimp only at hSw
              go_simp
              try with_reducible rfl
            try simp only [Act.put, List.setIfInBounds_toArray, List.set_cons_zero, List.set_cons_succ]
            refine rg_gen (i := 2) (v := ?_) rfl (by kernel_rfl) (by kernel_rfl) (by kernel_rfl) (fun _ _ _ h => h) rfl (by rfl) ?_ (by assumption) ?_
            rotate_left
            · intro w hSw
              try dsimp only at hSw
              go_simp
              try with_reducible rfl
            try simp only [Act.put, List.setIfInBounds_toArray, List.set_cons_zero, List.set_cons_succ]
            refine rg_gen (i := 4) (v := ?_) rfl (by kernel_rfl) (by kernel_rfl) (by kernel_rfl) (fun _ _ _ h => h) rfl (by rfl) ?_ (by assumption) ?_
            rotate_left
            · intro w hSw
              try dsimp only at hSw
              go_simp
              try with_reducible rfl
            try simp only [Act.put, List.setIfInBounds_toArray, List.set_cons_zero, List.set_cons_succ]
            refine rg_gen (i := 5) (v := ?_) rfl (by kernel_rfl) (by kernel_rfl) (by kernel_rfl) (fun _ _ _ h => h) rfl (by rfl) ?_ (by assumption) ?_
            rotate_left
            · intro w hSw
              try dsimp only at hSw
              go_simp
              try with_reducible rfl
            try simp only [Act.put, List.setIfInBounds_toArray, List.set_cons_zero, List.set_cons_succ]
            refine rg_gen (i := 6) (v := ?_) rfl (by kernel_rfl) (by kernel_rfl) (by kernel_rfl) (fun _ _ _ h => h) rfl (by rfl) ?_ (by assumption) ?_
            rotate_left
            · intro w hSw
              try dsimp only at hSw
              go_simp
              try with_reducible rfl
            try simp only [Act.put, List.setIfInBounds_toArray, List.set_cons_zero, List.set_cons_succ]
            have HBW : Hid (BothTo N w w1 w1.drew bd bm bx d1 d2 O') := show BothTo _ _ _ _ _ _ _ _ _ _ from HB0.out.next (Below.refl _ _).drew
            refine rg_one (i := 3) (by kernel_rfl) rfl (fun K hK => ?_)
            go_simp
            go_at_call 10
            refine (HCD.out _ _ _ HBW.out.both).mono ?_
            rintro e w3 ⟨rfl, hB3⟩
            go_wp2_with fail
            refine hK.out _ _ (KEEP.out _ ((hB3.keep _ HOB.out).trans (HBW.out.keep _ HOB.out))) (fun _ => ?_)
            clear hK K
            try simp only [Act.put, List.setIfInBounds_toArray, List.set_cons_zero, List.set_cons_succ]
            have HB3 := Lib.hid (HBW.out.trans hB3)
            clear hB3
            refine rg_one (i := 7) (by kernel_rfl) rfl (fun K hK => ?_)
            go_simp
            go_at_call 35
            refine (HCX.out _ _ _ HB3.out.both).mono ?_
            rintro e w4 ⟨rfl, hB4⟩
            go_wp2_with fail
            refine hK.out _ _ (KEEP.out _ ((hB4.keep _ HOB.out).trans (HB3.out.keep _ HOB.out))) (fun _ => ?_)
            clear hK K
            try simp only [Act.put, List.setIfInBounds_toArray, List.set_cons_zero, List.set_cons_succ]
            have HB4 := Lib.hid (HB3.out.trans hB4)
            clear hB4
            refine rg_gen (i := 8) (v := ?_) rfl (by kernel_rfl) (by kernel_rfl) (by kernel_rfl) (fun _ _ _ h => h) rfl (by rfl) ?_ (by assumption) ?_
            rotate_left
            · intro w hSw
              try dsimp only at hSw
              go_simp
              try with_reducible rfl
            try simp only [Act.put, List.setIfInBounds_toArray, List.set_cons_zero, List.set_cons_succ]
            refine rg_one (i := 9) (by kernel_rfl) rfl (fun K hK => ?_)
            go_simp
            refine hK.out _ _ (by assumption) (fun _ => ?_)
            clear hK K
            refine wpAnyH_done (by kernel_rfl) ?_ _
            go_wp2_with fail
            go_ret
            refine ⟨by rw [HS1.out, HS2.out]; rfl, ?_⟩
            rw [HS1.out, HS2.out]
            have h9 := HB4.out.less HOO.out
            exact ⟨h9.both, Nat.le_trans HZ.out h9.size, fun k hk => (h9.keep k hk).trans (HK0.out k hk)⟩
          · rw [if_neg k5] at hs1 hs2
            have q0 : (kd == 0) = false := beq_eq_false_iff_ne.2 fun e => k0 (.inl e)
            have q1 : (kd == 1) = false := beq_eq_false_iff_ne.2 fun e => k0 (.inr e)
            have q2 : (kd == 2) = false := beq_eq_false_iff_ne.2 k2
            have q3 : (kd == 3) = false := beq_eq_false_iff_ne.2 k3
            have q4 : (kd == 4) = false := beq_eq_false_iff_ne.2 k4
            have q5 : (kd == 5) = false := beq_eq_false_iff_ne.2 k5
            have HS1 := Lib.hid hs1
            have HS2 := Lib.hid hs2
            have HR5 := Lib.hid hx5
            clear hx1 hx2 hx3 hx4 hx5 k0 k2 k3 k4 k5 hs1 hs2
            go_enter Try.func16, Try.ntmps16
            go_wp2_with fail
            rw [← HW1.out, ← HBB.out]
            clear hw1
            go_wp2_with fail
            have HK1 : Hid (RdIn w1 v (ks.map fun k => .int .i64 k) O') := show RdIn _ _ _ _ from (HR5.out.kept HZ.out fun b _ hb => HK0.out b hb).mono fun b _ hb => HOO.out b hb
            refine (Both.xcrash _ HB0.out v ks HK1.out).mono ?_
            rintro e w3 ⟨rfl, hB3⟩
            have c5 : w3.cell? ⟨b, 5, none⟩ = some v := by rw [cell_of_row _ _ _ _ _ _ ((hB3.keep _ HOB.out).trans HR0.out)]; rfl
            have HB3 := Lib.hid hB3
            have HK3 := Lib.hid (RdIn.own_ok HB0.out HK1.out hB3)
            clear hB3
            go_wp2_with fail
            refine (Both.dcrash _ HB3.out.both v ks HK3.out).mono ?_
            rintro e w4 ⟨rfl, hB4⟩
            have HB4 := Lib.hid (HB3.out.trans hB4)
            clear hB4
            go_wp2_with fail
            go_ret
            refine ⟨by rw [HS1.out, HS2.out]; rfl, ?_⟩
            rw [HS1.out, HS2.out]
            have h9 := HB4.out.less HOO.out
            exact ⟨h9.both, Nat.le_trans HZ.out h9.size, fun k hk => (h9.keep k hk).trans (HK0.out k hk)⟩
end Go.Proofs.Ytopdhefhagckoaa
