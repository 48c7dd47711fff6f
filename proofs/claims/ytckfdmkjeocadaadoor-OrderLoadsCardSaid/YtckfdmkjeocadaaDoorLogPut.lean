/- order's put: what the call does. -/
import Derived.Test.YtckfdmkjeocadaaDoorLogMake
import Derived.Test.YtckfdmkjeocadaaDoorApp
import Derived.Great.BuildSlice
namespace Go.Proofs.YtckfdmkjeocadaaDoor
open Go.RowKit
set_option maxHeartbeats 2000000
set_option maxRecDepth 4000
/-- what a call that changes a log may change -/
structure LgTurn (W W' : World) (l : Nat) (sv : Value) : Prop where
  os : W'.os = W.os
  tape : W'.tape = W.tape
  output : W'.output = W.output
  size : W.heap.size ≤ W'.heap.size
  block : ∀ k, k < W.heap.size → k ≠ l → some k ≠ sv.ownBlock → W'.heap[k]? = W.heap[k]?
theorem LgTurn.of {W W' : World} (l : Nat) (sv : Value) (h : Below W.heap.size W W') : LgTurn W W' l sv := ⟨h.os, h.tape, h.output, h.size, fun k hk _ _ => h.block k hk⟩
theorem LgTurn.next {W W' W'' : World} {l : Nat} {sv : Value} (h : LgTurn W W' l sv) (hb : Below W'.heap.size W' W'') : LgTurn W W'' l sv :=
  ⟨hb.os.trans h.os, hb.tape.trans h.tape, hb.output.trans h.output, Nat.le_trans h.size hb.size, fun k hk h1 h2 => (hb.block k (Nat.lt_of_lt_of_le hk h.size)).trans (h.block k hk h1 h2)⟩
theorem LgTurn.after {W0 W W' : World} {l : Nat} {sv : Value} (hb : Below W0.heap.size W0 W) (h : LgTurn W W' l sv) : LgTurn W0 W' l sv :=
  ⟨h.os.trans hb.os, h.tape.trans hb.tape, h.output.trans hb.output, Nat.le_trans hb.size h.size, fun k hk h1 h2 => (h.block k (Nat.lt_of_lt_of_le hk hb.size) h1 h2).trans (hb.block k hk)⟩
theorem LgTurn.below {W W' w0 : World} {l : Nat} {sv : Value} {B : Nat} (h : LgTurn W W' l sv) (hb : Below B w0 W) (hl : B ≤ l) (hs : ∀ k, sv.ownBlock = some k → B ≤ k) (hB : B ≤ W.heap.size) : Below B w0 W' :=
  ⟨h.os.trans hb.os, h.tape.trans hb.tape, h.output.trans hb.output, Nat.le_trans hb.size h.size, fun k hk => (h.block k (by omega) (by omega) (fun e => by have := hs _ e.symm; omega)).trans (hb.block k hk)⟩
def bump (nx : List Int) (who : Int) : List Int := if 0 ≤ who then nx.set who.toNat (nx.getD who.toNat 0 + 1) else nx
theorem rcinfo : Tryd.prog.info? 61 = some { ((Tryd.prog.info? 61).getD default) with zero := some (.agg zlRc.toArray), size := 68, bytes := 104 } := by kernel_rfl
theorem rc_fill {r : RC} (h : r.wf) : Instr.fill (fun i => some (i * 68, 68)) ((Array.range (1 * 68)).map (fun i => (Value.agg zlRc.toArray).cells[i % (Value.agg zlRc.toArray).cells.size]!)) [(0, .agg r.cells.toArray)] = some r.cells.toArray := by
  have hz : (Array.range (1 * 68)).map (fun i => (Value.agg zlRc.toArray).cells[i % (Value.agg zlRc.toArray).cells.size]!) = zlRc.toArray := by kernel_rfl
  have hl := rc_len h
  rw [hz, fill_cons (off := 0) (size := 68) rfl (by simpa [Value.cells] using hl) (by decide)]
  show some (splice zlRc 0 r.cells).toArray = _
  rw [splice_all _ _ hl]
theorem lcells_set {sv : Value} {nx : List Int} {k : Nat} (x : Int) : (lcells sv nx).set (1 + k) (.int .i64 x) = lcells sv (nx.set k x) := by
  unfold lcells
  rw [Nat.add_comm, List.set_cons_succ, ← List.map_set]
theorem LgAt.setn {W : World} {base l : Nat} {sv : Value} {rs : List RC} {nx : List Int} (h : LgAt W base l sv rs nx) {k : Nat} (_hk : k < 64) {x : Int} (hx : 0 ≤ x ∧ x ≤ rs.length) : LgAt (W.setCell ⟨l, 1 + k, none⟩ (.int .i64 x)) base l sv rs (nx.set k x) := by
  refine ⟨by rw [List.length_set]; exact h.len, ?_, ownsRow_setCell_other h.own (fun e => by have := own_blk h.own l e; have := h.lt; omega) _, h.wf, h.lt, h.small, fun y hy => ?_⟩
  · have := set_row (i := 1 + k) h.row (.int .i64 x)
    rw [lcells_set x] at this
    exact this
  · rcases List.mem_or_eq_of_mem_set hy with h1 | h1
    · exact h.nxb y h1
    · rw [h1]; exact hx
theorem lput_any (base l : Nat) (sv : Value) (rs : List RC) (nx : List Int) (r : RC) (who : Int) (w : World) (hL : LgAt w base l sv rs nx) (hr : r.wf) (hn : rs.length < 1000) (hw : who < 64) (hbs0 : base ≤ w.heap.size) :
    Calls Tryd.prog 86 #[.pointer (some ⟨l, 0, none⟩), .agg r.cells.toArray, .int .i64 who] w fun e w' => e = .returned (.tuple #[]) ∧ (∃ sv', LgAt w' base l sv' (rs ++ [r]) (bump nx who) ∧ OwnNew w sv sv') ∧ LgTurn w w' l sv := by
  have HRW := Lib.hid hr
  have hB0 := bw_alloc (Below.refl w.heap.size w) (.cells r.cells.toArray 61)
  have hL0 := hL.below hB0
  have hg0 := heap_alloc_new w (.cells r.cells.toArray 61)
  have hll := block_lt hL.row
  have HB0 := Lib.hid hB0
  have HL0 := Lib.hid hL0
  have hc0 := hL0.c0
  have hsh : ∃ q n c, sv = .slice q n c := own_shape hL.own
  obtain ⟨sq, sn, sc, rfl⟩ := hsh
  have hwn : (Value.slice sq sn sc).ownBlock ≠ some w.heap.size := fun e => by
    rcases hL.own.2 with ⟨h1, _⟩ | ⟨g, cap, cur, h1, _, h2, _⟩
    · rw [h1] at e; cases e
    · rw [h1] at e
      have := block_lt h2
      simp only [Value.ownBlock, Option.some.injEq] at e
      omega
  have hne : w.heap.size ≠ l := by omega
  have KEEP : Hid (∀ W : World, W.heap[w.heap.size]? = some (.cells r.cells.toArray 61 (0, 0)) → W.rangeAt w.heap.size 0 r.cells) := show ∀ W : World, _ from fun W h2 => range_row h2 (by simp)
  have hu : Tryd.prog.underlying 61 = some _ := Tryd.underlying61
  clear hL hL0 hB0
  go_enter Tryd.func86, Tryd.ntmps86
  go_wp2_with fail
  generalize w.alloc (.cells r.cells.toArray 61) = w1 at *
  have hown := HL0.out.own
  have hbs : base ≤ w1.heap.size := Nat.le_trans hbs0 HB0.out.size
  have hg1 : w1.drew.heap[w.heap.size]? = some (.cells r.cells.toArray 61 (0, 0)) := hg0
  have hc1 : w1.drew.cell? ⟨l, 0, none⟩ = some (.slice sq sn sc) := hc0
  have hbA : Below w1.heap.size w1 (w1.drew.alloc (.cells r.cells.toArray 61)) := bw_alloc (Below.refl _ _).drew _
  have hg2 := (hbA.block _ (block_lt hg0)).trans hg0
  have hc2 := (hbA.cell (block_of_cell hc0)).trans hc0
  have hc3 : (w1.alloc (.cells r.cells.toArray 61)).cell? ⟨l, 0, none⟩ = some (.slice sq sn sc) := hc2
  have hown2 : w1.drew.ownsRow base 61 68 (.slice sq sn sc) rs.length (rcells rs) := hown
  have hlg : some l ≠ (Value.slice sq sn sc).ownBlock := fun e => by have := own_blk hown l e.symm; have := HL0.out.lt; omega
  have hwg : some w.heap.size ≠ (Value.slice sq sn sc).ownBlock := fun e => hwn e.symm
  have hrowl := HL0.out.row
  refine wp_region_held_drew (S := fun W => W.rangeAt w.heap.size 0 r.cells) (by kernel_rfl) (KEEP.out _ hg0) (fun hHeld => ?_)
  refine rg_gen (i := 0) (v := ?_) rfl (by kernel_rfl) (by kernel_rfl) (by kernel_rfl) (fun _ _ _ h => h) rfl (by rfl) ?_ (by assumption) ?_
  rotate_left
  · intro w hSw
    try dsimp only at hSw
    go_simp
    try with_reducible rfl
  try simp only [Act.put, List.setIfInBounds_toArray, List.set_cons_zero, List.set_cons_succ]
  refine rg_gen (i := 1) (v := ?_) rfl (by kernel_rfl) (by kernel_rfl) (by kernel_rfl) (fun _ _ _ h => h) rfl (by rfl) ?_ (by assumption) ?_
  rotate_left
  · intro w hSw
    try dsimp only at hSw
    go_simp
    try with_reducible rfl
  try simp only [Act.put, List.setIfInBounds_toArray, List.set_cons_zero, List.set_cons_succ]
  refine rg_gen (i := 2) (v := ?_) rfl (by kernel_rfl) (by kernel_rfl) (by kernel_rfl) (fun _ _ _ h => h) rfl (by rfl) ?_ (by assumption) ?_
  rotate_left
  · intro w hSw
    try dsimp only at hSw
    go_simp
    try with_reducible rfl
  try simp only [Act.put, List.setIfInBounds_toArray, List.set_cons_zero, List.set_cons_succ]
  refine rg_gen (i := 3) (v := ?_) rfl (by kernel_rfl) (by kernel_rfl) (by kernel_rfl) (fun _ _ _ h => h) rfl (by rfl) ?_ (by assumption) ?_
  rotate_left
  · intro w hSw
    try dsimp only at hSw
    go_simp
    try with_reducible rfl
  try simp only [Act.put, List.setIfInBounds_toArray, List.set_cons_zero, List.set_cons_succ]
  refine rg_row (i := 5) rfl (by kernel_rfl) (by kernel_rfl) (by kernel_rfl) (fun _ _ _ _ h => h) rfl (by rfl) 61 (.tmp 4) rfl w.heap.size 0 r.cells rfl (fun W h => h) hu rfl (rc_info HRW.out) (by assumption) ?_
  try simp only [Act.put, List.setIfInBounds_toArray, List.set_cons_zero, List.set_cons_succ]
  refine wpAnyH_ready (rs := [4, 6]) (by kernel_rfl) (by simp) ?_
  refine AllReadyH.cons rfl (fun K hK => ?_) (AllReadyH.cons rfl (fun K hK => ?_) AllReadyH.nil)
  go_simp
  refine hK.out _ _ (KEEP.out _ hg1) (fun hHeld1 => ?_)
  clear hK K
  try simp only [Act.put, List.setIfInBounds_toArray, List.set_cons_zero, List.set_cons_succ]
  refine rg_one (i := 6) (by kernel_rfl) rfl (fun K hK => ?_)
  rw [if_pos (by rfl)]
  refine wp_buildSlice 57 61 1 #[(0, .tmp 11)] rfl r.cells.toArray _ (.agg zlRc.toArray) Tryd.underlying57 rcinfo rfl (by decide) (by decide) (by simp only [List.map_toArray, List.map_cons, List.map_nil]; exact rc_fill HRW.out) ?_
  refine hK.out _ _ (KEEP.out _ hg2) (fun hHeld1 => ?_)
  clear hK K
  rotate_left
  rw [if_pos (by rfl)]
  refine wp_buildSlice 57 61 1 #[(0, .tmp 11)] rfl r.cells.toArray _ (.agg zlRc.toArray) Tryd.underlying57 rcinfo rfl (by decide) (by decide) (by simp only [List.map_toArray, List.map_cons, List.map_nil]; exact rc_fill HRW.out) ?_
  refine hK.out _ _ (KEEP.out _ hg2) (fun hHeld1 => ?_)
  clear hK K
  try simp only [Act.put, List.setIfInBounds_toArray]
  refine rg_one (i := 4) (by kernel_rfl) rfl (fun K hK => ?_)
  go_simp
  refine hK.out _ _ (KEEP.out _ hg2) (fun hHeld1 => ?_)
  clear hK K
  all_goals
    try simp only [Act.put, List.setIfInBounds_toArray]
    refine rg_one (i := 7) (by kernel_rfl) rfl (fun K hK => ?_)
    rw [if_pos (by rfl)]
    refine wp_append_own2 (.tmp 10) (.tmp 12) 57 rfl base 61 _ (.agg zlRc.toArray) 68 104 Tryd.underlying57 rcinfo rfl rfl rfl rfl (by decide) _ rs.length _ (by rfl) (hown2.alloc _) ⟨w1.heap.size, 0, none⟩ 1 1 r.cells (by rfl) (rc_len HRW.out) (rowat (heap_alloc_new w1.drew _)) (rc_one _) (by unfold maxLen; omega) (by omega) (Nat.le_trans hbs hbA.size) ?_
    intro v5 w5 hO5 hg5 hnw
    obtain ⟨q5, n5, c5, rfl⟩ := own_shape hO5
    have HNW : Hid (OwnNew w (.slice sq sn sc) (.slice q5 n5 c5)) := show OwnNew _ _ _ from fun k hk => (hnw k hk).imp id (fun h => Nat.le_trans HB0.out.size (Nat.le_trans hbA.size h))
    clear hnw
    have hlt5 : ∀ k, k < w1.heap.size → k < (w1.drew.alloc (.cells r.cells.toArray 61)).heap.size := fun k hk => Nat.lt_of_lt_of_le hk hbA.size
    have hrow5 : w5.heap[l]? = some (.cells (lcells (.slice sq sn sc) nx).toArray 110 (0, 0)) := (hg5.block l (hlt5 l (block_lt hrowl)) hlg).trans ((hbA.block _ (block_lt hrowl)).trans hrowl)
    have hbox5 : w5.heap[w.heap.size]? = some (.cells r.cells.toArray 61 (0, 0)) := (hg5.block _ (hlt5 _ (block_lt hg0)) hwg).trans hg2
    have hc5 : w5.cell? ⟨l, 0, none⟩ = some (.slice sq sn sc) := by rw [cell_of_row w5 l 0 _ _ _ hrow5]; rfl
    have hf5 : w5.frozen? ⟨l, 0, none⟩ = false := frozen_of_row w5 l 0 _ _ hrow5
    refine hK.out _ _ (KEEP.out _ hbox5) (fun hHeld2 => ?_)
    clear hK K
    try simp only [Act.put, List.setIfInBounds_toArray]
    refine rg_gen (i := 8) (v := ?_) rfl (by kernel_rfl) (by kernel_rfl) (by kernel_rfl) (fun _ _ _ h => h) rfl (by rfl) ?_ (by assumption) ?_
    rotate_left
    · intro w hSw
      try dsimp only at hSw
      go_simp
      try with_reducible rfl
    try simp only [Act.put]
    refine rg_gen (i := 9) (v := ?_) rfl (by kernel_rfl) (by kernel_rfl) (by kernel_rfl) (fun _ _ _ h => h) rfl (by rfl) ?_ (by assumption) ?_
    rotate_left
    · intro w hSw
      try dsimp only at hSw
      go_simp
      try with_reducible rfl
    try simp only [Act.put]
    refine rg_one (i := 10) (by kernel_rfl) rfl (fun K hK => ?_)
    go_simp
    have hbox6 : (w5.setCell ⟨l, 0, none⟩ (.slice q5 n5 c5)).heap[w.heap.size]? = some (.cells r.cells.toArray 61 (0, 0)) := (heap_setCell_other _ _ _ _ hne).trans hbox5
    refine hK.out _ _ (KEEP.out _ hbox6) (fun hHeld3 => ?_)
    clear hK K
    refine wpAnyH_done (by kernel_rfl) ?_ _
    have hL6 : LgAt (w5.setCell ⟨l, 0, none⟩ (.slice q5 n5 c5)) base l (.slice q5 n5 c5) (rs ++ [r]) nx := by
      refine ⟨HL0.out.len, set_row (i := 0) hrow5 (.slice q5 n5 c5), ?_, ?_, HL0.out.lt, ?_, ?_⟩
      · rw [List.length_append, rcells_app, rcells_one]
        exact ownsRow_setCell_other hO5 (fun e => by have := own_blk hO5 l e; have := HL0.out.lt; omega) _
      · intro x hx
        rcases List.mem_append.1 hx with h | h
        · exact HL0.out.wf x h
        · rw [List.mem_singleton.1 h]; exact HRW.out
      · rw [List.length_append]; simp; omega
      · intro x hx
        have := HL0.out.nxb x hx
        rw [List.length_append, List.length_singleton]
        omega
    have hT6 : LgTurn w1 (w5.setCell ⟨l, 0, none⟩ (.slice q5 n5 c5)) l (.slice sq sn sc) :=
      ⟨hg5.os, hg5.tape, hg5.output, Nat.le_trans hbA.size (Nat.le_trans hg5.size (by simp [World.setCell])), fun k hk h1 h2 => (heap_setCell_other _ _ _ _ h1).trans ((hg5.block k (hlt5 k hk) h2).trans (hbA.block k hk))⟩
    have HL6 := Lib.hid hL6
    have HNB := Lib.hid HL0.out.nxb
    have HT6 := Lib.hid (LgTurn.after HB0.out hT6)
    clear hL6 hT6 hbox6 hbox5 hrow5 hc5 hf5 hlt5 hO5 hg5 hHeld hHeld1 hHeld2 hHeld3 hown hown2 hg0 hg1 hg2 hc0 hc1 hc2 hc3 hbA KEEP HB0 HL0 hrowl hwg hlg hwn
    generalize w5.setCell ⟨l, 0, none⟩ (.slice q5 n5 c5) = W6 at *
    by_cases h0 : 0 ≤ who
    · obtain ⟨k, rfl⟩ : ∃ k : Nat, who = (k : Int) := ⟨who.toNat, by omega⟩
      have hk64 : k < 64 := by omega
      have hd0 : decide ((0 : Int) ≤ k) = true := decide_eq_true h0
      have f1 : (k : Int) < 64 := by omega
      obtain ⟨x, hx⟩ : ∃ x, x = nx.getD k 0 := ⟨_, rfl⟩
      have hxb : 0 ≤ x ∧ x ≤ (rs ++ [r]).length := by
        rw [hx, List.getD_eq_getElem?_getD, List.getElem?_eq_getElem (by rw [HL6.out.len]; exact hk64)]
        exact HL6.out.nxb _ (List.getElem_mem _)
      have e1 : IntKind.i64.wrap (x + 1) = x + 1 := IntWalk.i64_in _ (by have := HL6.out.small; omega)
      have g1 : W6.cell? ⟨l, 1 + k, none⟩ = some (.int .i64 x) := by rw [hx]; exact HL6.out.cn hk64
      have HX : Hid (bump nx (k : Int) = nx.set k (x + 1)) := show _ = _ by rw [bump, if_pos h0, hx]; rfl
      have hxb2 : 0 ≤ x + 1 ∧ x + 1 ≤ (rs ++ [r]).length := by
        have hx1 : 0 ≤ x ∧ x ≤ rs.length := by
          rw [hx, List.getD_eq_getElem?_getD, List.getElem?_eq_getElem (by rw [HL6.out.len]; exact hk64)]
          exact HNB.out _ (List.getElem_mem _)
        rw [List.length_append, List.length_singleton]
        omega
      clear hx
      go_wp2_with fail
      go_still_tail 10, (by kernel_rfl)
      change wpList _ _ _ _ _ W6.drew
      have g2 : W6.drew.cell? ⟨l, 1 + k, none⟩ = some (.int .i64 x) := g1
      have gf : W6.drew.frozen? ⟨l, 1 + k, none⟩ = false := HL6.out.free _
      have HL7 := Lib.hid (HL6.out.below (Below.refl _ _).drew)
      have HT7 := Lib.hid (HT6.out.next (Below.refl _ _).drew)
      clear g1 HL6 HT6
      generalize W6.drew = W7 at *
      go_wp2_with fail
      go_end0
      refine ⟨rfl, ⟨.slice q5 n5 c5, ?_, HNW.out⟩, ?_⟩
      · rw [HX.out]; exact HL7.out.setn hk64 hxb2
      · exact ⟨HT7.out.os, HT7.out.tape, HT7.out.output, Nat.le_trans HT7.out.size (by simp [World.setCell]), fun k hk h1 h2 => (heap_setCell_other _ _ _ _ h1).trans (HT7.out.block k hk h1 h2)⟩
    · have hd0 : decide ((0 : Int) ≤ who) = false := decide_eq_false h0
      have HX : Hid (bump nx who = nx) := show _ = _ by rw [bump, if_neg h0]
      clear h0
      go_wp2_with fail
      go_end0
      exact ⟨rfl, ⟨.slice q5 n5 c5, by rw [HX.out]; exact HL6.out, HNW.out⟩, HT6.out⟩
end Go.Proofs.YtckfdmkjeocadaaDoor
