/- Transactions that are laid one behind the other; the reference's gate in memory. -/
import Derived.Test.YtckfdmkjeocadaaDoorGatesOut
import Derived.Test.YtckfdmkjeocadaaDoorWq
import Derived.Test.YtckfdmkjeocadaaDoorRRead
import Derived.Test.YtckfdmkjeocadaaDoorRSign
import Derived.Deep.DeepCutAuto
import Derived.Deep.OwnRows
namespace Go.Proofs.YtckfdmkjeocadaaDoor
open Go.RowKit
set_option maxHeartbeats 4000000
set_option maxRecDepth 4000
def tcells (rs : List TX) : List Value := rs.flatMap TX.cells
theorem tcells_length : ∀ (rs : List TX), (∀ r ∈ rs, r.wf) → (tcells rs).length = rs.length * 72
  | [], _ => rfl
  | r :: rs, h => by
    have h1 := tcells_length rs (fun x hx => h x (List.mem_cons_of_mem _ hx))
    have h2 := r.cells_length (h r (List.mem_cons_self ..)).by_ (h r (List.mem_cons_self ..)).tag
    simp only [tcells, List.flatMap_cons, List.length_append, List.length_cons] at h1 ⊢
    omega
theorem tcells_at : ∀ (rs : List TX), (∀ r ∈ rs, r.wf) → ∀ (k : Nat) (hk : k < rs.length) (j : Nat) (v : Value), (rs[k]'hk).cells[j]? = some v → (tcells rs)[k * 72 + j]? = some v
  | [], _, k, hk, _, _, _ => absurd hk (by simp)
  | r :: rs, h, k, hk, j, v, hv => by
    have h2 := r.cells_length (h r (List.mem_cons_self ..)).by_ (h r (List.mem_cons_self ..)).tag
    simp only [tcells, List.flatMap_cons]
    cases k with
    | zero =>
      simp only [List.getElem_cons_zero] at hv
      have hj : j < r.cells.length := by
        rcases Nat.lt_or_ge j r.cells.length with h3 | h3
        · exact h3
        · rw [List.getElem?_eq_none h3] at hv; cases hv
      rw [List.getElem?_append_left (by omega)]
      simpa using hv
    | succ k =>
      simp only [List.getElem_cons_succ] at hv
      have ih := tcells_at rs (fun x hx => h x (List.mem_cons_of_mem _ hx)) k (by simpa using hk) j v hv
      rw [List.getElem?_append_right (by omega), h2, show (k + 1) * 72 + j - 72 = k * 72 + j by omega]
      exact ih
theorem tcells_app (a b : List TX) : tcells (a ++ b) = tcells a ++ tcells b := by simp [tcells]
theorem tcells_one (r : TX) : tcells [r] = r.cells := by simp [tcells]
theorem tcells_ones (rs : List TX) : ∀ v ∈ tcells rs, v.oneCell' = true := by
  intro v hv
  obtain ⟨r, _, h⟩ := List.mem_flatMap.1 hv
  exact start_one r v h
def TcsAt (W : World) (g off : Nat) (rs : List TX) : Prop := ∃ (cur : List Value) (fr : Nat × Nat), W.heap[g]? = some (.cells cur.toArray 25 fr) ∧ ∀ j u, (tcells rs)[j]? = some u → cur[off + j]? = some u
theorem TcsAt.one {W : World} {g off : Nat} {rs : List TX} (h : TcsAt W g off rs) (hw : ∀ r ∈ rs, r.wf) (k : Nat) (hk : k < rs.length) : ∃ (cur : List Value) (fr : Nat × Nat), W.heap[g]? = some (.cells cur.toArray 25 fr) ∧ ∀ j u, (rs[k]'hk).cells[j]? = some u → cur[off + k * 72 + j]? = some u := by
  obtain ⟨cur, fr, h1, h2⟩ := h
  refine ⟨cur, fr, h1, fun j u hu => ?_⟩
  have := h2 _ _ (tcells_at rs hw k hk j u hu)
  rw [← Nat.add_assoc] at this
  exact this
theorem own_tcs {W : World} {base : Nat} {v : Value} {rs : List TX} (h : W.ownsRow base 25 72 v rs.length (tcells rs)) : (v = .slice none 0 0 ∧ rs = []) ∨ ∃ g c, v = .slice (some ⟨g, 0, none⟩) rs.length c ∧ TcsAt W g 0 rs ∧ base ≤ g ∧ g < W.heap.size ∧ rs.length ≤ c := by
  rcases h.2 with ⟨h1, h2⟩ | ⟨g, cap, cur, h1, h2, h3, h4, h5, h6, h7⟩
  · exact .inl ⟨h1, List.length_eq_zero_iff.1 h2⟩
  · refine .inr ⟨g, cap, h1, ⟨cur.toList, (0, 0), h3, fun j u hu => ?_⟩, h2, block_lt h3, h4⟩
    rw [← h7, List.getElem?_take] at hu
    split at hu
    · rw [Nat.zero_add]; exact hu
    · cases hu
theorem own_tcs2 {W : World} {base : Nat} {v : Value} {rs : List TX} (h : W.ownsRow base 25 72 v rs.length (tcells rs)) : ∃ q c, v = .slice q rs.length c ∧ (rs = [] ∨ ∃ g, q = some ⟨g, 0, none⟩ ∧ TcsAt W g 0 rs ∧ base ≤ g ∧ g < W.heap.size ∧ rs.length ≤ c) := by
  rcases own_tcs h with ⟨h1, h2⟩ | ⟨g, c, h1, h2⟩
  · exact ⟨none, 0, by rw [h1, h2]; rfl, .inl h2⟩
  · exact ⟨_, c, h1, .inr ⟨g, rfl, h2⟩⟩
theorem TcsAt.below {W W' : World} {g off : Nat} {rs : List TX} (h : TcsAt W g off rs) (hb : Below W.heap.size W W') : TcsAt W' g off rs := by
  obtain ⟨cur, fr, h1, h2⟩ := h
  exact ⟨cur, fr, keep_row hb h1, h2⟩
theorem txinfo : Tryd.prog.info? 25 = some { ((Tryd.prog.info? 25).getD default) with zero := some (.agg zlTx.toArray), size := 72, bytes := 136 } := by kernel_rfl
theorem txa_fill {r : TX} (h : r.wf) : Instr.fill (fun i => some (i * 72, 72)) ((Array.range (1 * 72)).map (fun i => (Value.agg zlTx.toArray).cells[i % (Value.agg zlTx.toArray).cells.size]!)) [(0, .agg r.cells.toArray)] = some r.cells.toArray := by
  have hz : (Array.range (1 * 72)).map (fun i => (Value.agg zlTx.toArray).cells[i % (Value.agg zlTx.toArray).cells.size]!) = zlTx.toArray := by kernel_rfl
  have hl : r.cells.length = zlTx.length := r.cells_length h.by_ h.tag
  rw [hz, fill_cons (off := 0) (size := 72) rfl (by simpa [Value.cells] using hl) (by decide)]
  show some (splice zlTx 0 r.cells).toArray = _
  rw [splice_all _ _ hl]
/-- the reference's gate in memory -/
structure XG (W : World) (base x : Nat) (fl : Int) (nx : List Int) (nb : Nat) (lv : Value) (ts : List TX) : Prop where
  len : nx.length = 64
  row : W.heap[x]? = some (.cells #[.int .i64 fl, .slice (some ⟨nb, 0, none⟩) 64 64, lv] 106 (0, 0))
  nrow : W.heap[nb]? = some (.cells (nums64 nx).toArray 3 (0, 0))
  own : W.ownsRow base 25 72 lv ts.length (tcells ts)
  wf : ∀ t ∈ ts, t.wf ∧ 0 ≤ t.frm ∧ t.frm < 64
  ne : x ≠ nb ∧ lv.ownBlock ≠ some x ∧ lv.ownBlock ≠ some nb
  small : ts.length ≤ 1000
  lo : base ≤ x ∧ base ≤ nb
section
variable {W W' : World} {base x nb : Nat} {fl : Int} {nx : List Int} {lv : Value} {ts : List TX}
theorem XG.below (h : XG W base x fl nx nb lv ts) (hb : Below W.heap.size W W') : XG W' base x fl nx nb lv ts :=
  ⟨h.len, keep_row hb h.row, keep_row hb h.nrow, own_below h.own hb (Nat.le_refl _), h.wf, h.ne, h.small, h.lo⟩
theorem XG.c0 (h : XG W base x fl nx nb lv ts) : W.cell? ⟨x, 0, none⟩ = some (.int .i64 fl) := by
  have h2 : W.heap[x]? = some (.cells [Value.int .i64 fl, .slice (some ⟨nb, 0, none⟩) 64 64, lv].toArray 106 (0, 0)) := h.row
  rw [cell_of_row W x 0 _ _ _ h2]; rfl
theorem XG.c1 (h : XG W base x fl nx nb lv ts) : W.cell? ⟨x, 1, none⟩ = some (.slice (some ⟨nb, 0, none⟩) 64 64) := by
  have h2 : W.heap[x]? = some (.cells [Value.int .i64 fl, .slice (some ⟨nb, 0, none⟩) 64 64, lv].toArray 106 (0, 0)) := h.row
  rw [cell_of_row W x 1 _ _ _ h2]; rfl
theorem XG.c2 (h : XG W base x fl nx nb lv ts) : W.cell? ⟨x, 2, none⟩ = some lv := by
  have h2 : W.heap[x]? = some (.cells [Value.int .i64 fl, .slice (some ⟨nb, 0, none⟩) 64 64, lv].toArray 106 (0, 0)) := h.row
  rw [cell_of_row W x 2 _ _ _ h2]; rfl
theorem XG.cn (h : XG W base x fl nx nb lv ts) {i : Nat} (hi : i < 64) : W.cell? ⟨nb, i, none⟩ = some (.int .i64 (nx.getD i 0)) := by
  have hl := h.len
  rw [cell_of_row W nb i _ _ _ h.nrow, List.getElem?_toArray, nums64, List.getElem?_map, List.getElem?_eq_getElem (by omega), List.getD_eq_getElem?_getD, List.getElem?_eq_getElem (by omega)]
  rfl
theorem XG.lts (h : XG W base x fl nx nb lv ts) : x < W.heap.size ∧ nb < W.heap.size ∧ ∀ k, lv.ownBlock = some k → k < W.heap.size := ⟨block_lt h.row, block_lt h.nrow, fun k hk => (h.own.lt k hk).2⟩
theorem XG.twf (h : XG W base x fl nx nb lv ts) : ∀ t ∈ ts, t.wf := fun t ht => (h.wf t ht).1
theorem XG.shape (h : XG W base x fl nx nb lv ts) : ∃ q c, lv = .slice q ts.length c := by
  obtain ⟨q, c, h1, -⟩ := own_tcs2 h.own
  exact ⟨q, c, h1⟩
end
/-- what a call that changes the reference's gate may change -/
structure XTurn (W W' : World) (x nb : Nat) (lv : Value) : Prop where
  os : W'.os = W.os
  tape : W'.tape = W.tape
  output : W'.output = W.output
  size : W.heap.size ≤ W'.heap.size
  block : ∀ k, k < W.heap.size → k ≠ x → k ≠ nb → some k ≠ lv.ownBlock → W'.heap[k]? = W.heap[k]?
theorem XTurn.of {W W' : World} (x nb : Nat) (lv : Value) (h : Below W.heap.size W W') : XTurn W W' x nb lv := ⟨h.os, h.tape, h.output, h.size, fun k hk _ _ _ => h.block k hk⟩
theorem XTurn.next {W W' W'' : World} {x nb : Nat} {lv : Value} (h : XTurn W W' x nb lv) (hb : Below W'.heap.size W' W'') : XTurn W W'' x nb lv :=
  ⟨hb.os.trans h.os, hb.tape.trans h.tape, hb.output.trans h.output, Nat.le_trans h.size hb.size, fun k hk h1 h2 h3 => (hb.block k (Nat.lt_of_lt_of_le hk h.size)).trans (h.block k hk h1 h2 h3)⟩
theorem XTurn.after {W0 W W' : World} {x nb : Nat} {lv : Value} (hb : Below W0.heap.size W0 W) (h : XTurn W W' x nb lv) : XTurn W0 W' x nb lv :=
  ⟨h.os.trans hb.os, h.tape.trans hb.tape, h.output.trans hb.output, Nat.le_trans hb.size h.size, fun k hk h1 h2 h3 => (h.block k (Nat.lt_of_lt_of_le hk hb.size) h1 h2 h3).trans (hb.block k hk)⟩
theorem XTurn.upd {W0 W W' : World} {x nb b : Nat} {lv : Value} {o : Obj} (h : XTurn W0 W x nb lv) (hU : Upd W W' b o) (hb : W0.heap.size ≤ b ∨ b = x ∨ b = nb) : XTurn W0 W' x nb lv :=
  ⟨hU.os.trans h.os, hU.tape.trans h.tape, hU.output.trans h.output, by rw [hU.size]; exact h.size, fun k hk h1 h2 h3 => (hU.other k (by omega)).trans (h.block k hk h1 h2 h3)⟩
/-- where a transaction stands, or none -/
def AtOk (ts : List TX) (t : TX) (k : Int) : Prop := k = -1 ∨ ∃ j : Nat, k = j ∧ ts[j]? = some t
theorem xat_any (base x nb : Nat) (fl : Int) (nx : List Int) (lv : Value) (ts : List TX) (t : TX) (w : World) (hX : XG w base x fl nx nb lv ts) (ht : t.wf) :
    Calls Tryd.prog 100 #[.pointer (some ⟨x, 0, none⟩), .agg t.cells.toArray] w fun e w' => (∃ k, e = .returned (.int .i64 k) ∧ AtOk ts t k) ∧ Below w.heap.size w w' := by
  have HT := Lib.hid ht
  have HX := Lib.hid hX
  have hb0 := bw_alloc (Below.refl w.heap.size w) (.cells t.cells.toArray 25)
  have hg0 := heap_alloc_new w (.cells t.cells.toArray 25)
  have HB0 := Lib.hid hb0
  obtain ⟨q, c, rfl, hq⟩ := own_tcs2 hX.own
  have HQ := Lib.hid hq
  obtain ⟨m, hm⟩ : ∃ m, m = ts.length := ⟨_, rfl⟩
  have hsm := hX.small
  have HX0 := Lib.hid (hX.below hb0)
  rw [← hm] at hsm HX HX0
  have HM := Lib.hid hm
  clear ht hX hq hm hb0
  go_enter Tryd.func100, Tryd.ntmps100
  go_wp2_with fail
  generalize w.alloc (.cells t.cells.toArray 25) = w0 at *
  go_loopw [5] (fun i wr => ∃ j : Nat, j ≤ m ∧ i = .int .i64 j ∧ Hid (Below w0.heap.size w0 wr)) (fun i _ => m - (intOf i).toNat)
  case atStart => exact ⟨0, by omega, rfl, Below.refl _ _⟩
  case round =>
    obtain ⟨j, hj, rfl, HB⟩ := hrel
    have c2 := (HX0.out.below HB.out).c2
    by_cases hlt : j < m
    · have hl2 : j < ts.length := by have := HM.out; omega
      rcases HQ.out with h | ⟨g, rfl, hrow, -, hgl, -⟩
      · exact absurd hl2 (by rw [h]; simp)
      have hrow0 : TcsAt w0 g 0 ts := by
        obtain ⟨cur, fr, h1, h2⟩ := hrow
        exact ⟨cur, fr, (HB0.out.block _ (block_lt h1)).trans h1, h2⟩
      obtain ⟨u, hu⟩ : ∃ u, u = ts[j]'hl2 := ⟨_, rfl⟩
      have HUW : Hid u.wf := show _ from by rw [hu]; exact HX.out.twf _ (List.getElem_mem hl2)
      have HRG : Hid (∀ W, Below w0.heap.size w0 W → W.rangeAt g (j * 72) u.cells) := show ∀ W, _ from fun W hb => by
        obtain ⟨cur, fr, hg, hat⟩ := (hrow0.below hb).one HX.out.twf j hl2
        rw [← hu] at hat
        exact range_row hg (fun x v hv => by have := hat x v hv; rw [Nat.zero_add] at this; exact this)
      have HGET : Hid (ts[j]? = some u) := show _ = _ from by rw [hu]; exact List.getElem?_eq_getElem hl2
      have f0 : (0 : Int) ≤ j := by omega
      have f1 : (j : Int) < m := by omega
      have HTR : Hid (∀ W, Below w0.heap.size w0 W → W.rangeAt w.heap.size 0 t.cells) := show ∀ W, _ from fun W hb => range_row (keep_row hb hg0) id_at
      have HCL : Hid (∀ W, Below w0.heap.size w0 W → W.cell? ⟨x, 2, none⟩ = some (.slice (some ⟨g, 0, none⟩) m c)) := show ∀ W, _ from fun W hb => (HX0.out.below hb).c2
      clear hrow hrow0 hu hl2 hgl
      go_wp2_with fail
      refine wp_region_classW (fun W => Below w0.heap.size w0 W ∧ W.cell? ⟨x, 2, none⟩ = some (.slice (some ⟨g, 0, none⟩) m c)) (by kernel_rfl) (by kernel_rfl) ⟨HB.out.drew, HCL.out _ HB.out.drew⟩ ?_
      refine WQ.gen (v := ?_) (by kernel_rfl) ?_ ?_
      rotate_left
      · intro W hC
        go_simp
        try with_reducible rfl
      refine WQ.eq (a' := ?_) ?_ ?_
      rotate_left
      · try simp only [Act.put, List.setIfInBounds_toArray, List.set_cons_zero, List.set_cons_succ]
        exact rfl
      refine WQ.gen (v := ?_) (by kernel_rfl) ?_ ?_
      rotate_left
      · intro W hC
        go_simp
        try with_reducible rfl
      refine WQ.eq (a' := ?_) ?_ ?_
      rotate_left
      · try simp only [Act.put, List.setIfInBounds_toArray, List.set_cons_zero, List.set_cons_succ]
        exact rfl
      refine WQ.gen (v := ?_) (by kernel_rfl) ?_ ?_
      rotate_left
      · intro W hC
        go_simp
        try with_reducible rfl
      refine WQ.eq (a' := ?_) ?_ ?_
      rotate_left
      · try simp only [Act.put, List.setIfInBounds_toArray, List.set_cons_zero, List.set_cons_succ]
        exact rfl
      refine WQ.gen (v := ?_) (by kernel_rfl) ?_ ?_
      rotate_left
      · intro W hC
        go_simp
        try with_reducible rfl
      refine WQ.eq (a' := ?_) ?_ ?_
      rotate_left
      · try simp only [Act.put, List.setIfInBounds_toArray, List.set_cons_zero, List.set_cons_succ]
        exact rfl
      refine WQ.gen (v := ?_) (by kernel_rfl) ?_ ?_
      rotate_left
      · intro W hC
        go_simp
        try with_reducible rfl
      refine WQ.eq (a' := ?_) ?_ ?_
      rotate_left
      · try simp only [Act.put, List.setIfInBounds_toArray, List.set_cons_zero, List.set_cons_succ]
        exact rfl
      refine WQ.gen (v := ?_) (by kernel_rfl) ?_ ?_
      rotate_left
      · intro W hC
        go_simp
        try with_reducible rfl
      refine WQ.eq (a' := ?_) ?_ ?_
      rotate_left
      · try simp only [Act.put, List.setIfInBounds_toArray, List.set_cons_zero, List.set_cons_succ]
        exact rfl
      refine WQ.load (by kernel_rfl) 25 (.tmp 20) rfl g (j * 72) u.cells _ rfl (fun W hC => HRG.out W hC.1) Tryd.underlying25 rfl (tx_info HUW.out) ?_
      refine WQ.eq (a' := ?_) ?_ ?_
      rotate_left
      · try simp only [Act.put, List.setIfInBounds_toArray, List.set_cons_zero, List.set_cons_succ]
        exact rfl
      refine WQ.load (by kernel_rfl) 25 (.tmp 3) rfl w.heap.size 0 t.cells _ rfl (fun W hC => HTR.out W hC.1) Tryd.underlying25 rfl (tx_info HT.out) ?_
      refine WQ.eq (a' := ?_) ?_ ?_
      rotate_left
      · try simp only [Act.put, List.setIfInBounds_toArray, List.set_cons_zero, List.set_cons_succ]
        exact rfl
      by_cases hut : u = t
      · refine WQ.bin (by kernel_rfl) .eql 25 25 (.tmp 21) (.tmp 22) rfl (.agg u.cells.toArray) (.agg t.cells.toArray) (.bool true) rfl rfl (tx_eqG _ _ _ _ _) (fun w => (tx_eql HUW.out HT.out w).trans (by rw [decide_eq_true hut])) ?_
        refine WQ.eq (a' := ?_) ?_ ?_
        rotate_left
        · try simp only [Act.put, List.setIfInBounds_toArray, List.set_cons_zero, List.set_cons_succ]
          exact rfl
        refine WQ.nil ?_
        rintro w6 ⟨hB6, -⟩
        have HB6 := Lib.hid (bw_call HB0.out hB6)
        have HA : Hid (AtOk ts t j) := show _ ∨ _ from .inr ⟨j, rfl, by rw [HGET.out, hut]⟩
        clear hB6 hut c2
        go_wp2_with fail
        go_ret
        exact ⟨⟨_, rfl, HA.out⟩, HB6.out⟩
      · refine WQ.bin (by kernel_rfl) .eql 25 25 (.tmp 21) (.tmp 22) rfl (.agg u.cells.toArray) (.agg t.cells.toArray) (.bool false) rfl rfl (tx_eqG _ _ _ _ _) (fun w => (tx_eql HUW.out HT.out w).trans (by rw [decide_eq_false hut])) ?_
        refine WQ.eq (a' := ?_) ?_ ?_
        rotate_left
        · try simp only [Act.put, List.setIfInBounds_toArray, List.set_cons_zero, List.set_cons_succ]
          exact rfl
        refine WQ.nil ?_
        rintro w6 ⟨hB6, -⟩
        have HB6 := Lib.hid hB6
        clear hB6 hut c2
        go_wp2_with fail
        go_roundw
        case rel => exact ⟨j + 1, by omega, by go_num, HB6⟩
        case measure => simp [intOf]; omega
    · have hd0 : decide ((j : Int) < m) = false := decide_eq_false (by omega)
      have HB6 := Lib.hid (bw_call HB0.out HB.out)
      go_wp2_with fail
      go_ret
      exact ⟨⟨_, rfl, .inl rfl⟩, HB6.out⟩
end Go.Proofs.YtckfdmkjeocadaaDoor
