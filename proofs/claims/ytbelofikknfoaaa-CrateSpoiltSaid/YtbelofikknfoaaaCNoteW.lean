/- window.Pack's closure 'note': what the call does. -/
import Derived.Test.YtbelofikknfoaaaCNote
import Derived.Test.YtbelofikknfoaaaCStretch
namespace Go.Proofs.Ytbelofikknfoaaa
open Go.RowKit
set_option maxHeartbeats 2000000
set_option maxRecDepth 4000
theorem wp_look {P : Program} {o : Oper} {a : Act} {w : World} {K : Act → World → Prop} {Q : Exit → Act → World → Prop} (t : TypeId) (m x : Operand) (hop : o.op = Op.lookup t m x false) {mv xv v : Value} (hm : a.eval m = mv) (hx : a.eval x = xv) (hr : (Instr.lookup t mv xv false).run P w = .ok v w) (h : K (a.put o.dst v) w) : o.wp P a w K Q := by
  unfold Oper.wp
  simp [execOp, hop, hm, hx, hr, Result.andThen]
  exact h
theorem wp_mapSet {P : Program} {o : Oper} {a : Act} {w w' : World} {K : Act → World → Prop} {Q : Exit → Act → World → Prop} (t : TypeId) (m x y : Operand) (hop : o.op = Op.mapUpdate t m x y) {mv xv yv : Value} (hm : a.eval m = mv) (hx : a.eval x = xv) (hy : a.eval y = yv) (hr : (Instr.mapUpdate t mv xv yv).run P w = .ok () w') (h : K (a.put o.dst undef) w') : o.wp P a w K Q := by
  unfold Oper.wp
  simp [execOp, hop, hm, hx, hy, hr, Result.andThen]
  exact h
theorem wp_appInts {o : Oper} {a : Act} {w w' : World} {K : Act → World → Prop} {Q : Exit → Act → World → Prop} (sl x : Operand) (hop : o.op = .call { callee := .builtin .append, args := #[sl, x], argTypes := #[50, 50] }) (hty : o.type = 50) {sv xv v' : Value} (hs : a.eval sl = sv) (hx : a.eval x = xv) (hr : (Builtin.append_ #[50, 50] 50 #[sv, xv]).run Try.prog w = .ok v' w') (h : K (a.put o.dst v') w') : o.wp Try.prog a w K Q := by
  unfold Oper.wp execOp
  simp only [hop, hty, resolve, invoke, builtin, Sem.run_bind, Sem.run_pure, Result.andThen_ok, List.map_toArray, List.map_cons, List.map_nil, hs, hx, hr]
  exact h
theorem NTurn.refl (w : World) (bm base : Nat) (No : Nat → Prop) : NTurn w w bm base No := ⟨rfl, rfl, rfl, Nat.le_refl _, fun _ _ _ _ => rfl⟩
theorem NTurn.trans {a b c : World} {bm base : Nat} {No : Nat → Prop} (h : NTurn a b bm base No) (k : NTurn b c bm base No) : NTurn a c bm base No :=
  ⟨k.os.trans h.os, k.tape.trans h.tape, k.output.trans h.output, Nat.le_trans h.size k.size, fun j hj h1 h2 => (k.block j (Nat.lt_of_lt_of_le hj h.size) h1 h2).trans (h.block j hj h1 h2)⟩
theorem note_any (bk bs bm base : Nat) (K : ByteArray) (t : Nat) (No : Nat → Prop) (w : World) (h : NoteAt w bk bs bm base K t No) (hK : K.size ≤ 1073741824) (htK : t ≤ K.size) (hNk : No bk) (hNs : No bs) :
    Calls Try.prog 38 #[.int .i64 t, .pointer (some ⟨bk, 0, none⟩), .pointer (some ⟨bs, 0, none⟩)] w fun e w' => e = .returned (.tuple #[]) ∧ NoteAt w' bk bs bm base K (t + 1) No ∧ NTurn w w' bm base No := by
  have ck := cell_of_one h.k
  have cs := cell_of_one h.s
  obtain ⟨t4, ht4⟩ : ∃ x, x = t + 4 := ⟨_, rfl⟩
  have e1 : IntKind.i64.wrap ((t : Int) + 4) = (t4 : Int) := by rw [IntWalk.i64_in _ (by omega)]; omega
  by_cases hle : t4 ≤ K.size
  · have d0 : decide ((t4 : Int) ≤ K.size) = true := decide_eq_true (by omega)
    have d0' : decide (t4 ≤ K.size) = true := decide_eq_true hle
    have f0 : (0 : Int) ≤ t := by omega
    have f1 : (t : Int) ≤ t4 := by omega
    have f2 : (t4 : Int) ≤ K.size := by omega
    have f3 : t ≤ t4 := by omega
    obtain ⟨W5, hW5⟩ : ∃ W, W = w.drew.alloc (.cells #[.int .i64 (t : Int)] 3) := ⟨_, rfl⟩
    have hx5 : W5.heap[w.heap.size]? = some (.cells #[.int .i64 (t : Int)] 3 (0, 0)) := by rw [hW5]; exact heap_alloc_new w.drew _
    have hg5 : w.drew.grownBy W5 none := by rw [hW5]; exact World.grownBy_alloc _ _ _
    have hd : NoteAt w.drew bk bs bm base K t No := ⟨h.k, h.s, h.own, h.sh, h.hb, h.lo⟩
    have h5 := hd.kept hg5 (fun j hj => by cases hj)
    obtain ⟨v1, r11, v2, w6, r12, w7, r13, c16, c17, hn1, hT1⟩ := note_end hd hg5 hx5 (by omega) hK hNk hNs
    obtain ⟨u1, r21, u2, y6, r22, y7, r23, c26, c27, hn2, hT2⟩ := note_end h5 (World.grownBy.refl W5 none) hx5 (by omega) hK hNk hNs
    have HN1 := Lib.hid hn1
    have HN2 := Lib.hid hn2
    have HT1 : Hid (NTurn w w7 bm base No) := show NTurn _ _ _ _ _ from ⟨hT1.os, hT1.tape, hT1.output, hT1.size, hT1.block⟩
    have HT2 : Hid (NTurn w y7 bm base No) := show NTurn _ _ _ _ _ from ⟨hT2.os.trans hg5.os, hT2.tape.trans hg5.tape, hT2.output.trans hg5.output, Nat.le_trans hg5.size hT2.size, fun j hj h1 h2 => (hT2.block j (Nat.lt_of_lt_of_le hj hg5.size) h1 h2).trans (hg5.block j hj (by simp))⟩
    have c5 : W5.cell? ⟨bs, 0, none⟩ = some (.map (some bm)) := cell_of_one h5.s
    rw [← ht4] at r11 r13 r21 r23
    have R11 := Lib.hid r11
    have R12 := Lib.hid r12
    have R13 := Lib.hid r13
    have R21 := Lib.hid r21
    have R22 := Lib.hid r22
    have R23 := Lib.hid r23
    have HW5 : Hid ((w.alloc (.cells #[.int .i64 (t : Int)] 3)).drew = W5) := show _ = _ from hW5.symm
    clear hn1 hn2 hT1 hT2 h5 hd hg5 hx5 hW5 r11 r12 r13 r21 r22 r23 ht4
    go_enter Try.func38, Try.ntmps38
    go_wp2_with fail
    refine wp_region_held_drew (S := fun W => W.cell? ⟨bs, 0, none⟩ = some (.map (some bm))) (by kernel_rfl) cs (fun _ => ?_)
    refine rg_gen (i := 0) (v := ?_) rfl (by kernel_rfl) (by kernel_rfl) (by kernel_rfl) (fun _ _ _ h => h) rfl (by rfl) ?_ (by assumption) ?_
    rotate_left
    · intro w hSw
      try dsimp only at hSw
      go_simp
      try with_reducible rfl
    try simp only [Act.put, List.setIfInBounds_toArray, List.set_cons_zero, List.set_cons_succ]
    refine rg_gen (i := 1) (v := ?_) rfl (by kernel_rfl) (by kernel_rfl) (by kernel_rfl) (fun _ _ _ h => h) rfl (by rfl) ?_ (by assumption) ?_
    rotate_left
    · intro w hSw
      try dsimp only at hSw
      go_simp
      try with_reducible rfl
    try simp only [Act.put, List.setIfInBounds_toArray, List.set_cons_zero, List.set_cons_succ]
    refine rg_gen (i := 2) (v := ?_) rfl (by kernel_rfl) (by kernel_rfl) (by kernel_rfl) (fun _ _ _ h => h) rfl (by rfl) ?_ (by assumption) ?_
    rotate_left
    · intro w hSw
      try dsimp only at hSw
      go_simp
      try with_reducible rfl
    try simp only [Act.put, List.setIfInBounds_toArray, List.set_cons_zero, List.set_cons_succ]
    refine rg_gen (i := 3) (v := ?_) rfl (by kernel_rfl) (by kernel_rfl) (by kernel_rfl) (fun _ _ _ h => h) rfl (by rfl) ?_ (by assumption) ?_
    rotate_left
    · intro w hSw
      try dsimp only at hSw
      go_simp
      try with_reducible rfl
    try simp only [Act.put, List.setIfInBounds_toArray, List.set_cons_zero, List.set_cons_succ]
    refine rg_gen (i := 5) (v := ?_) rfl (by kernel_rfl) (by kernel_rfl) (by kernel_rfl) (fun _ _ _ h => h) rfl (by rfl) ?_ (by assumption) ?_
    rotate_left
    · intro w hSw
      try dsimp only at hSw
      go_simp
      try with_reducible rfl
    try simp only [Act.put, List.setIfInBounds_toArray, List.set_cons_zero, List.set_cons_succ]
    refine wpAnyH_ready (rs := [4, 6]) (by kernel_rfl) (by simp) ?_
    refine AllReadyH.cons rfl (fun K hK => ?_) (AllReadyH.cons rfl (fun K hK => ?_) AllReadyH.nil)
    · rw [if_pos (by rfl)]
      refine wp_look 49 (.tmp 17) (.tmp 18) rfl (by rfl) (by rfl) R11.out ?_
      refine hK.out _ _ cs (fun _ => ?_)
      clear hK K
      try simp only [Act.put, List.setIfInBounds_toArray, List.set_cons_zero, List.set_cons_succ]
      refine rg_one (i := 6) (by kernel_rfl) rfl (fun K hK => ?_)
      go_simp
      rw [HW5.out]
      refine hK.out _ _ c5 (fun _ => ?_)
      clear hK K
      try simp only [Act.put, List.setIfInBounds_toArray, List.set_cons_zero, List.set_cons_succ]
      refine rg_one (i := 7) (by kernel_rfl) rfl (fun K hK => ?_)
      rw [if_pos (by rfl)]
      refine wp_appInts (.tmp 19) (.tmp 21) rfl rfl (by rfl) (by rfl) R12.out ?_
      refine hK.out _ _ c16 (fun _ => ?_)
      clear hK K
      try simp only [Act.put, List.setIfInBounds_toArray, List.set_cons_zero, List.set_cons_succ]
      refine rg_one (i := 8) (by kernel_rfl) rfl (fun K hK => ?_)
      rw [if_pos (by rfl)]
      refine wp_mapSet 49 (.tmp 15) (.tmp 16) (.tmp 22) rfl (by rfl) (by rfl) (by rfl) R13.out ?_
      refine hK.out _ _ c17 (fun _ => ?_)
      clear hK K
      refine wpAnyH_done (by kernel_rfl) ?_ _
      go_wp2_with fail
      go_end0
      exact ⟨rfl, HN1.out, HT1.out⟩
    · go_simp
      rw [HW5.out]
      refine hK.out _ _ c5 (fun _ => ?_)
      clear hK K
      try simp only [Act.put, List.setIfInBounds_toArray, List.set_cons_zero, List.set_cons_succ]
      refine rg_one (i := 4) (by kernel_rfl) rfl (fun K hK => ?_)
      rw [if_pos (by rfl)]
      refine wp_look 49 (.tmp 17) (.tmp 18) rfl (by rfl) (by rfl) R21.out ?_
      refine hK.out _ _ c5 (fun _ => ?_)
      clear hK K
      try simp only [Act.put, List.setIfInBounds_toArray, List.set_cons_zero, List.set_cons_succ]
      refine rg_one (i := 7) (by kernel_rfl) rfl (fun K hK => ?_)
      rw [if_pos (by rfl)]
      refine wp_appInts (.tmp 19) (.tmp 21) rfl rfl (by rfl) (by rfl) R22.out ?_
      refine hK.out _ _ c26 (fun _ => ?_)
      clear hK K
      try simp only [Act.put, List.setIfInBounds_toArray, List.set_cons_zero, List.set_cons_succ]
      refine rg_one (i := 8) (by kernel_rfl) rfl (fun K hK => ?_)
      rw [if_pos (by rfl)]
      refine wp_mapSet 49 (.tmp 15) (.tmp 16) (.tmp 22) rfl (by rfl) (by rfl) (by rfl) R23.out ?_
      refine hK.out _ _ c27 (fun _ => ?_)
      clear hK K
      refine wpAnyH_done (by kernel_rfl) ?_ _
      go_wp2_with fail
      go_end0
      exact ⟨rfl, HN2.out, HT2.out⟩
  · have d0 : decide ((t4 : Int) ≤ K.size) = false := decide_eq_false (by omega)
    have d0' : decide (t4 ≤ K.size) = false := decide_eq_false hle
    have HS := Lib.hid (h.skip (by omega))
    clear ht4
    go_enter Try.func38, Try.ntmps38
    go_wp2_with fail
    go_end0
    exact ⟨rfl, HS.out, NTurn.refl _ _ _ _⟩
end Go.Proofs.Ytbelofikknfoaaa
