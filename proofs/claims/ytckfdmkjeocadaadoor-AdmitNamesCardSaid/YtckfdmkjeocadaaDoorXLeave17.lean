/- The reference's gate: Leave, New. -/
import Derived.Test.YtckfdmkjeocadaaDoorXRef17
namespace Go.Proofs.YtckfdmkjeocadaaDoor
open Go.RowKit
set_option maxHeartbeats 4000000
set_option maxRecDepth 4000
theorem own_base {W : World} {b1 b2 n size : Nat} {e : TypeId} {v : Value} {xs : List Value} (h : W.ownsRow b1 e size v n xs) (hb : b2 ≤ b1) : W.ownsRow b2 e size v n xs := by
  refine ⟨h.1, ?_⟩
  rcases h.2 with h2 | ⟨g, cap, cur, h1, h2, r⟩
  · exact .inl h2
  · exact .inr ⟨g, cap, cur, h1, Nat.le_trans hb h2, r⟩
/-- the reference's gate with other transactions -/
theorem XG.rest {W W' : World} {base x nb B : Nat} {fl : Int} {nx : List Int} {lv lv' : Value} {ts ts' : List TX} (h : XG W base x fl nx nb lv ts) (hb : Below W.heap.size W W') (hs : ∀ u ∈ ts', u ∈ ts) (hn : ts'.length ≤ ts.length)
    (ho : W'.ownsRow B 25 72 lv' ts'.length (tcells ts')) (hB : W.heap.size ≤ B) (h0 : base ≤ W.heap.size) : XG (W'.setCell ⟨x, 2, none⟩ lv') base x fl nx nb lv' ts' := by
  obtain ⟨hl1, hl2, -⟩ := h.lts
  have h2 := h.below hb
  have hx : W'.heap[x]? = some (.cells [Value.int .i64 fl, .slice (some ⟨nb, 0, none⟩) 64 64, lv].toArray 106 (0, 0)) := h2.row
  have hk : ∀ k, lv'.ownBlock = some k → W.heap.size ≤ k := fun k hk => Nat.le_trans hB (own_blk ho k hk)
  refine ⟨h.len, set_row (i := 2) hx lv', (heap_setCell_other _ _ _ _ (Ne.symm h.ne.1)).trans h2.nrow, own_base (ownsRow_setCell_other ho (fun e => by have h9 : W.heap.size ≤ x := hk _ e; omega) _) (by omega), fun u hu => h.wf u (hs u hu), ⟨h.ne.1, fun e => by have := hk _ e; omega, fun e => by have := hk _ e; omega⟩, Nat.le_trans hn h.small, h.lo⟩
theorem XG.setn {W : World} {base x nb fr : Nat} {fl : Int} {nx : List Int} {lv : Value} {ts : List TX} (h : XG W base x fl nx nb lv ts) (y : Int) : XG (W.setCell ⟨nb, fr, none⟩ (.int .i64 y)) base x fl (nx.set fr y) nb lv ts := by
  refine ⟨by rw [List.length_set]; exact h.len, (heap_setCell_other _ _ _ _ h.ne.1).trans h.row, ?_, ownsRow_setCell_other h.own h.ne.2.2 _, h.wf, h.ne, h.small, h.lo⟩
  have h1 := set_row (i := fr) h.nrow (.int .i64 y)
  rw [show (nums64 nx).set fr (.int .i64 y) = nums64 (nx.set fr y) by unfold nums64; rw [← List.map_set]] at h1
  exact h1
theorem xleave_any (t : TX) (d : Bool) (base x nb : Nat) (fl : Int) (nx : List Int) (lv : Value) (ts : List TX) (w : World) (hX : XG w base x fl nx nb lv ts) (ht : t.wf) (hbs : base ≤ w.heap.size) :
    Calls Tryd.prog 76 #[.pointer (some ⟨x, 0, none⟩), .agg t.cells.toArray, .bool d] w fun e w' => (∃ q : Int, e = .returned (.int .i64 q)) ∧ (∃ nx' lv' ts', XG w' base x fl nx' nb lv' ts' ∧ ts'.length ≤ ts.length ∧ OwnNew w lv lv') ∧ XTurn w w' x nb lv := by
  have HT := Lib.hid ht
  have HX := Lib.hid hX
  have hg0 := heap_alloc_new w (.cells t.cells.toArray 25)
  have hb0 := bw_alloc (Below.refl w.heap.size w) (.cells t.cells.toArray 25)
  have HX0 := Lib.hid (hX.below hb0)
  have HLT : Hid (x < w.heap.size ∧ nb < w.heap.size ∧ ∀ k, lv.ownBlock = some k → k < w.heap.size) := show _ ∧ _ from hX.lts
  clear hX ht
  go_enter Tryd.func76, Tryd.ntmps76
  go_wp2_with (with_reducible refine wpList_load_rows rfl 25 (.tmp 4) rfl w.heap.size 0 t.cells t.cells 25 (0, 0) _ rfl hg0 id_at Tryd.underlying25 rfl (tx_info HT.out) ?_)
  refine (xat_any base x nb fl nx lv ts t _ HX0.out HT.out).mono ?_
  rintro e w1 ⟨⟨k, rfl, hk⟩, hb1⟩
  have HK := Lib.hid hk
  have HG1 := Lib.hid (keep_row hb1 hg0)
  have HB1 := Lib.hid (bw_call hb0 hb1)
  have HX1 := Lib.hid (HX0.out.below hb1)
  clear hb0 hb1 hg0 hk HX0
  by_cases hk0 : k < 0
  · have hd1 : decide (k < 0) = true := decide_eq_true hk0
    clear hk0
    go_wp2_with fail
    go_ret
    exact ⟨⟨_, rfl⟩, ⟨nx, lv, ts, HX1.out, Nat.le_refl _, OwnNew.refl _ _⟩, XTurn.of _ _ _ HB1.out⟩
  · have hd1 : decide (k < 0) = false := decide_eq_false hk0
    obtain ⟨j0, rfl, hget⟩ : ∃ j0 : Nat, k = j0 ∧ ts[j0]? = some t := by
      rcases HK.out with h | h
      · omega
      · exact h
    have hfr0 := (HX.out.wf t (List.mem_of_getElem? hget)).2
    have HJ : Hid (j0 < ts.length) := show _ < _ from by
      rcases Nat.lt_or_ge j0 ts.length with h | h
      · exact h
      · rw [List.getElem?_eq_none h] at hget; cases hget
    obtain ⟨fr, hfr⟩ : ∃ fr : Nat, t.frm = (fr : Int) := ⟨t.frm.toNat, by omega⟩
    have hfr64 : fr < 64 := by omega
    have HFR := Lib.hid hfr
    obtain ⟨nn, hnn⟩ : ∃ y, y = nx.getD fr 0 := ⟨_, rfl⟩
    have HNN := Lib.hid hnn
    have f0 : (0 : Int) ≤ fr := by omega
    have f1 : (fr : Int) < 64 := by omega
    have KEEP : Hid (∀ W, Below w1.heap.size w1 W → W.cell? ⟨w.heap.size, 0, none⟩ = some (.int .i64 fr) ∧ W.cell? ⟨w.heap.size, 1, none⟩ = some (.int .i64 t.nonce) ∧ W.cell? ⟨x, 1, none⟩ = some (.slice (some ⟨nb, 0, none⟩) 64 64) ∧ W.cell? ⟨nb, fr, none⟩ = some (.int .i64 nn)) := show ∀ W, _ from fun W hb => by
      have h1 := keep_row hb HG1.out
      have h2 := HX1.out.below hb
      exact ⟨by rw [← HFR.out, cell_of_row W _ 0 _ _ _ h1]; rfl, by rw [cell_of_row W _ 1 _ _ _ h1]; rfl, h2.c1, by rw [HNN.out]; exact h2.cn hfr64⟩
    clear hk0 hget hfr0 hfr hnn
    go_upto_region 4 with fail
    obtain ⟨bad, hbad⟩ : ∃ y, y = (d && decide (t.nonce ≠ nn)) := ⟨_, rfl⟩
    have HBAD := Lib.hid hbad
    clear hbad
    go_cut [28] (fun v wx => v = .bool bad ∧ Hid (Below w1.heap.size w1 wx))
    case first =>
      refine wp_region_classW (fun W => Below w1.heap.size w1 W ∧ W.cell? ⟨w.heap.size, 0, none⟩ = some (.int .i64 fr) ∧ W.cell? ⟨w.heap.size, 1, none⟩ = some (.int .i64 t.nonce) ∧ W.cell? ⟨x, 1, none⟩ = some (.slice (some ⟨nb, 0, none⟩) 64 64) ∧ W.cell? ⟨nb, fr, none⟩ = some (.int .i64 nn)) (by kernel_rfl) (by kernel_rfl) ⟨(Below.refl _ _).drew, KEEP.out _ (Below.refl _ _).drew⟩ ?_
      cases d
      · refine WQ.gen (v := ?_) (by kernel_rfl) ?_ ?_
        rotate_left
        · intro W hC
          go_simp
          try with_reducible rfl
        refine WQ.eq (a' := ?_) ?_ ?_
        rotate_left
        · try simp only [Act.put, List.setIfInBounds_toArray, List.set_cons_zero, List.set_cons_succ]
          exact rfl
        refine WQ.gen (v := ?_) (by kernel_rfl) ?_ ?_
        rotate_left
        · intro W hC
          go_simp
          try with_reducible rfl
        refine WQ.eq (a' := ?_) ?_ ?_
        rotate_left
        · try simp only [Act.put, List.setIfInBounds_toArray, List.set_cons_zero, List.set_cons_succ]
          exact rfl
        refine WQ.skip (by kernel_rfl) ?_
        refine WQ.eq (a' := ?_) ?_ ?_
        rotate_left
        · try simp only [Act.put, List.setIfInBounds_toArray, List.set_cons_zero, List.set_cons_succ]
          exact rfl
        refine WQ.skip (by kernel_rfl) ?_
        refine WQ.eq (a' := ?_) ?_ ?_
        rotate_left
        · try simp only [Act.put, List.setIfInBounds_toArray, List.set_cons_zero, List.set_cons_succ]
          exact rfl
        refine WQ.skip (by kernel_rfl) ?_
        refine WQ.eq (a' := ?_) ?_ ?_
        rotate_left
        · try simp only [Act.put, List.setIfInBounds_toArray, List.set_cons_zero, List.set_cons_succ]
          exact rfl
        refine WQ.skip (by kernel_rfl) ?_
        refine WQ.eq (a' := ?_) ?_ ?_
        rotate_left
        · try simp only [Act.put, List.setIfInBounds_toArray, List.set_cons_zero, List.set_cons_succ]
          exact rfl
        refine WQ.skip (by kernel_rfl) ?_
        refine WQ.eq (a' := ?_) ?_ ?_
        rotate_left
        · try simp only [Act.put, List.setIfInBounds_toArray, List.set_cons_zero, List.set_cons_succ]
          exact rfl
        refine WQ.skip (by kernel_rfl) ?_
        refine WQ.eq (a' := ?_) ?_ ?_
        rotate_left
        · try simp only [Act.put, List.setIfInBounds_toArray, List.set_cons_zero, List.set_cons_succ]
          exact rfl
        refine WQ.skip (by kernel_rfl) ?_
        refine WQ.eq (a' := ?_) ?_ ?_
        rotate_left
        · try simp only [Act.put, List.setIfInBounds_toArray, List.set_cons_zero, List.set_cons_succ]
          exact rfl
        refine WQ.skip (by kernel_rfl) ?_
        refine WQ.eq (a' := ?_) ?_ ?_
        rotate_left
        · try simp only [Act.put, List.setIfInBounds_toArray, List.set_cons_zero, List.set_cons_succ]
          exact rfl
        refine WQ.skip (by kernel_rfl) ?_
        refine WQ.eq (a' := ?_) ?_ ?_
        rotate_left
        · try simp only [Act.put, List.setIfInBounds_toArray, List.set_cons_zero, List.set_cons_succ]
          exact rfl
        refine WQ.skip (by kernel_rfl) ?_
        refine WQ.eq (a' := ?_) ?_ ?_
        rotate_left
        · try simp only [Act.put, List.setIfInBounds_toArray, List.set_cons_zero, List.set_cons_succ]
          exact rfl
        refine WQ.skip (by kernel_rfl) ?_
        refine WQ.eq (a' := ?_) ?_ ?_
        rotate_left
        · try simp only [Act.put, List.setIfInBounds_toArray, List.set_cons_zero, List.set_cons_succ]
          exact rfl
        refine WQ.gen (v := ?_) (by kernel_rfl) ?_ ?_
        rotate_left
        · intro W hC
          go_simp
          try with_reducible rfl
        refine WQ.eq (a' := ?_) ?_ ?_
        rotate_left
        · try simp only [Act.put, List.setIfInBounds_toArray, List.set_cons_zero, List.set_cons_succ]
          exact rfl
        refine WQ.nil ?_
        rintro w2 ⟨hB2, -⟩
        have HB2 := Lib.hid hB2
        clear hB2
        go_wp2_with fail
        go_meet
        case rel => exact ⟨by rw [HBAD.out]; rfl, HB2⟩
      · by_cases hn : t.nonce = nn
        · have hb : (t.nonce != nn) = false := by simpa using hn
          have HBF : Hid (bad = false) := show _ = _ from by rw [HBAD.out, decide_eq_false (by simpa using hn)]; rfl
          clear hn
          refine WQ.gen (v := ?_) (by kernel_rfl) ?_ ?_
          rotate_left
          · intro W hC
            go_simp
            try with_reducible rfl
          refine WQ.eq (a' := ?_) ?_ ?_
          rotate_left
          · try simp only [Act.put, List.setIfInBounds_toArray, List.set_cons_zero, List.set_cons_succ]
            exact rfl
          refine WQ.gen (v := ?_) (by kernel_rfl) ?_ ?_
          rotate_left
          · intro W hC
            go_simp
            try with_reducible rfl
          refine WQ.eq (a' := ?_) ?_ ?_
          rotate_left
          · try simp only [Act.put, List.setIfInBounds_toArray, List.set_cons_zero, List.set_cons_succ]
            exact rfl
          refine WQ.gen (v := ?_) (by kernel_rfl) ?_ ?_
          rotate_left
          · intro W hC
            go_simp
            try with_reducible rfl
          refine WQ.eq (a' := ?_) ?_ ?_
          rotate_left
          · try simp only [Act.put, List.setIfInBounds_toArray, List.set_cons_zero, List.set_cons_succ]
            exact rfl
          refine WQ.gen (v := ?_) (by kernel_rfl) ?_ ?_
          rotate_left
          · intro W hC
            go_simp
            try with_reducible rfl
          refine WQ.eq (a' := ?_) ?_ ?_
          rotate_left
          · try simp only [Act.put, List.setIfInBounds_toArray, List.set_cons_zero, List.set_cons_succ]
            exact rfl
          refine WQ.gen (v := ?_) (by kernel_rfl) ?_ ?_
          rotate_left
          · intro W hC
            go_simp
            try with_reducible rfl
          refine WQ.eq (a' := ?_) ?_ ?_
          rotate_left
          · try simp only [Act.put, List.setIfInBounds_toArray, List.set_cons_zero, List.set_cons_succ]
            exact rfl
          refine WQ.gen (v := ?_) (by kernel_rfl) ?_ ?_
          rotate_left
          · intro W hC
            go_simp
            try with_reducible rfl
          refine WQ.eq (a' := ?_) ?_ ?_
          rotate_left
          · try simp only [Act.put, List.setIfInBounds_toArray, List.set_cons_zero, List.set_cons_succ]
            exact rfl
          refine WQ.gen (v := ?_) (by kernel_rfl) ?_ ?_
          rotate_left
          · intro W hC
            go_simp
            try with_reducible rfl
          refine WQ.eq (a' := ?_) ?_ ?_
          rotate_left
          · try simp only [Act.put, List.setIfInBounds_toArray, List.set_cons_zero, List.set_cons_succ]
            exact rfl
          refine WQ.gen (v := ?_) (by kernel_rfl) ?_ ?_
          rotate_left
          · intro W hC
            go_simp
            try with_reducible rfl
          refine WQ.eq (a' := ?_) ?_ ?_
          rotate_left
          · try simp only [Act.put, List.setIfInBounds_toArray, List.set_cons_zero, List.set_cons_succ]
            exact rfl
          refine WQ.gen (v := ?_) (by kernel_rfl) ?_ ?_
          rotate_left
          · intro W hC
            go_simp
            try with_reducible rfl
          refine WQ.eq (a' := ?_) ?_ ?_
          rotate_left
          · try simp only [Act.put, List.setIfInBounds_toArray, List.set_cons_zero, List.set_cons_succ]
            exact rfl
          refine WQ.gen (v := ?_) (by kernel_rfl) ?_ ?_
          rotate_left
          · intro W hC
            go_simp
            try with_reducible rfl
          refine WQ.eq (a' := ?_) ?_ ?_
          rotate_left
          · try simp only [Act.put, List.setIfInBounds_toArray, List.set_cons_zero, List.set_cons_succ]
            exact rfl
          refine WQ.gen (v := ?_) (by kernel_rfl) ?_ ?_
          rotate_left
          · intro W hC
            go_simp
            try with_reducible rfl
          refine WQ.eq (a' := ?_) ?_ ?_
          rotate_left
          · try simp only [Act.put, List.setIfInBounds_toArray, List.set_cons_zero, List.set_cons_succ]
            exact rfl
          refine WQ.gen (v := ?_) (by kernel_rfl) ?_ ?_
          rotate_left
          · intro W hC
            go_simp
            try with_reducible rfl
          refine WQ.eq (a' := ?_) ?_ ?_
          rotate_left
          · try simp only [Act.put, List.setIfInBounds_toArray, List.set_cons_zero, List.set_cons_succ]
            exact rfl
          refine WQ.gen (v := ?_) (by kernel_rfl) ?_ ?_
          rotate_left
          · intro W hC
            go_simp
            try with_reducible rfl
          refine WQ.eq (a' := ?_) ?_ ?_
          rotate_left
          · try simp only [Act.put, List.setIfInBounds_toArray, List.set_cons_zero, List.set_cons_succ]
            exact rfl
          refine WQ.gen (v := ?_) (by kernel_rfl) ?_ ?_
          rotate_left
          · intro W hC
            go_simp
            try with_reducible rfl
          refine WQ.eq (a' := ?_) ?_ ?_
          rotate_left
          · try simp only [Act.put, List.setIfInBounds_toArray, List.set_cons_zero, List.set_cons_succ]
            exact rfl
          refine WQ.nil ?_
          rintro w2 ⟨hB2, -⟩
          have HB2 := Lib.hid hB2
          clear hB2
          go_wp2_with fail
          go_meet
          case rel => exact ⟨by rw [HBF.out], HB2⟩
        · have hb : (t.nonce != nn) = true := by simpa using hn
          have HBF : Hid (bad = true) := show _ = _ from by rw [HBAD.out, decide_eq_true (by simpa using hn)]; rfl
          clear hn
          refine WQ.gen (v := ?_) (by kernel_rfl) ?_ ?_
          rotate_left
          · intro W hC
            go_simp
            try with_reducible rfl
          refine WQ.eq (a' := ?_) ?_ ?_
          rotate_left
          · try simp only [Act.put, List.setIfInBounds_toArray, List.set_cons_zero, List.set_cons_succ]
            exact rfl
          refine WQ.gen (v := ?_) (by kernel_rfl) ?_ ?_
          rotate_left
          · intro W hC
            go_simp
            try with_reducible rfl
          refine WQ.eq (a' := ?_) ?_ ?_
          rotate_left
          · try simp only [Act.put, List.setIfInBounds_toArray, List.set_cons_zero, List.set_cons_succ]
            exact rfl
          refine WQ.gen (v := ?_) (by kernel_rfl) ?_ ?_
          rotate_left
          · intro W hC
            go_simp
            try with_reducible rfl
          refine WQ.eq (a' := ?_) ?_ ?_
          rotate_left
          · try simp only [Act.put, List.setIfInBounds_toArray, List.set_cons_zero, List.set_cons_succ]
            exact rfl
          refine WQ.gen (v := ?_) (by kernel_rfl) ?_ ?_
          rotate_left
          · intro W hC
            go_simp
            try with_reducible rfl
          refine WQ.eq (a' := ?_) ?_ ?_
          rotate_left
          · try simp only [Act.put, List.setIfInBounds_toArray, List.set_cons_zero, List.set_cons_succ]
            exact rfl
          refine WQ.gen (v := ?_) (by kernel_rfl) ?_ ?_
          rotate_left
          · intro W hC
            go_simp
            try with_reducible rfl
          refine WQ.eq (a' := ?_) ?_ ?_
          rotate_left
          · try simp only [Act.put, List.setIfInBounds_toArray, List.set_cons_zero, List.set_cons_succ]
            exact rfl
          refine WQ.gen (v := ?_) (by kernel_rfl) ?_ ?_
          rotate_left
          · intro W hC
            go_simp
            try with_reducible rfl
          refine WQ.eq (a' := ?_) ?_ ?_
          rotate_left
          · try simp only [Act.put, List.setIfInBounds_toArray, List.set_cons_zero, List.set_cons_succ]
            exact rfl
          refine WQ.gen (v := ?_) (by kernel_rfl) ?_ ?_
          rotate_left
          · intro W hC
            go_simp
            try with_reducible rfl
          refine WQ.eq (a' := ?_) ?_ ?_
          rotate_left
          · try simp only [Act.put, List.setIfInBounds_toArray, List.set_cons_zero, List.set_cons_succ]
            exact rfl
          refine WQ.gen (v := ?_) (by kernel_rfl) ?_ ?_
          rotate_left
          · intro W hC
            go_simp
            try with_reducible rfl
          refine WQ.eq (a' := ?_) ?_ ?_
          rotate_left
          · try simp only [Act.put, List.setIfInBounds_toArray, List.set_cons_zero, List.set_cons_succ]
            exact rfl
          refine WQ.gen (v := ?_) (by kernel_rfl) ?_ ?_
          rotate_left
          · intro W hC
            go_simp
            try with_reducible rfl
          refine WQ.eq (a' := ?_) ?_ ?_
          rotate_left
          · try simp only [Act.put, List.setIfInBounds_toArray, List.set_cons_zero, List.set_cons_succ]
            exact rfl
          refine WQ.gen (v := ?_) (by kernel_rfl) ?_ ?_
          rotate_left
          · intro W hC
            go_simp
            try with_reducible rfl
          refine WQ.eq (a' := ?_) ?_ ?_
          rotate_left
          · try simp only [Act.put, List.setIfInBounds_toArray, List.set_cons_zero, List.set_cons_succ]
            exact rfl
          refine WQ.gen (v := ?_) (by kernel_rfl) ?_ ?_
          rotate_left
          · intro W hC
            go_simp
            try with_reducible rfl
          refine WQ.eq (a' := ?_) ?_ ?_
          rotate_left
          · try simp only [Act.put, List.setIfInBounds_toArray, List.set_cons_zero, List.set_cons_succ]
            exact rfl
          refine WQ.gen (v := ?_) (by kernel_rfl) ?_ ?_
          rotate_left
          · intro W hC
            go_simp
            try with_reducible rfl
          refine WQ.eq (a' := ?_) ?_ ?_
          rotate_left
          · try simp only [Act.put, List.setIfInBounds_toArray, List.set_cons_zero, List.set_cons_succ]
            exact rfl
          refine WQ.gen (v := ?_) (by kernel_rfl) ?_ ?_
          rotate_left
          · intro W hC
            go_simp
            try with_reducible rfl
          refine WQ.eq (a' := ?_) ?_ ?_
          rotate_left
          · try simp only [Act.put, List.setIfInBounds_toArray, List.set_cons_zero, List.set_cons_succ]
            exact rfl
          refine WQ.gen (v := ?_) (by kernel_rfl) ?_ ?_
          rotate_left
          · intro W hC
            go_simp
            try with_reducible rfl
          refine WQ.eq (a' := ?_) ?_ ?_
          rotate_left
          · try simp only [Act.put, List.setIfInBounds_toArray, List.set_cons_zero, List.set_cons_succ]
            exact rfl
          refine WQ.nil ?_
          rintro w2 ⟨hB2, -⟩
          have HB2 := Lib.hid hB2
          clear hB2
          go_wp2_with fail
          go_meet
          case rel => exact ⟨by rw [HBF.out], HB2⟩
    case rest =>
      obtain ⟨rfl, HB2⟩ := hcut
      generalize wc = w2 at *
      have HBw := Lib.hid (bw_call HB1.out HB2.out)
      have HX2 := Lib.hid (HX1.out.below HB2.out)
      cases bad
      · obtain ⟨q, c, rfl, hq⟩ := own_tcs2 HX2.out.own
        have HQ := Lib.hid hq
        obtain ⟨m, hm⟩ : ∃ m, m = ts.length := ⟨_, rfl⟩
        have hsm := HX2.out.small
        rw [← hm] at hsm HX2 HLT HJ
        try rw [← hm]
        have HM := Lib.hid hm
        have HX2' := HX2
        have hjm := HJ.out
        clear hq hm
        go_wp2_with fail
        go_loopw [8, 9] (fun v i wr => ∃ (j : Nat) (qr : Option Addr) (nr cr : Nat) (rs : List TX), j ≤ m ∧ nr ≤ j ∧ v = .slice qr nr cr ∧ i = .int .i64 j ∧ Hid (nr = rs.length) ∧ Hid (∀ u ∈ rs, u ∈ ts) ∧ Hid (wr.ownsRow w2.heap.size 25 72 (.slice qr nr cr) rs.length (tcells rs)) ∧ Hid (Below w2.heap.size w2 wr)) (fun _ i _ => m - (intOf i).toNat)
        case atStart => exact ⟨0, none, 0, 0, [], by omega, by omega, rfl, rfl, show 0 = _ from rfl, show ∀ u ∈ _, _ from fun u hu => (by cases hu), own_nil _ _ _ _, Below.refl _ _⟩
        case round =>
          obtain ⟨j, qr, nr, cr, rs, hj, hnj, rfl, rfl, HNR, HSUB, HO, HB⟩ := hrel
          have c2 := (HX2.out.below HB.out).c2
          by_cases hlt : j < m
          · have hl2 : j < ts.length := by have := HM.out; omega
            rcases HQ.out with h | ⟨g, rfl, hrow, -, hgl, -⟩
            · exact absurd hl2 (by rw [h]; simp)
            have f2 : (0 : Int) ≤ j := by omega
            have f3 : (j : Int) < m := by omega
            by_cases hjk : j = j0
            · subst hjk
              have hd2 : ((j : Int) != (j : Int)) = false := by simp
              clear hrow hgl hl2
              go_wp2_with fail
              go_roundw
              case rel => exact ⟨j + 1, qr, nr, cr, rs, by omega, by omega, rfl, by go_num, HNR, HSUB, HO, HB⟩
              case measure => simp [intOf]; omega
            · have hd2 : ((j : Int) != (j0 : Int)) = true := by rw [bne_iff_ne]; omega
              obtain ⟨u, hu⟩ : ∃ u, u = ts[j]'hl2 := ⟨_, rfl⟩
              have HUM : Hid (u ∈ ts) := show _ ∈ _ from by rw [hu]; exact List.getElem_mem hl2
              have HUW : Hid u.wf := show _ from HX2.out.twf _ HUM.out
              have HRG : Hid (wr.rangeAt g (j * 72) u.cells) := show World.rangeAt _ _ _ _ from by
                obtain ⟨cur, fr2, hg, hat⟩ := (hrow.below HB.out).one HX2.out.twf j hl2
                rw [← hu] at hat
                exact range_row hg (fun y v hv => by have := hat y v hv; rw [Nat.zero_add] at this; exact this)
              have HL72 : Hid (u.cells.length = 1 * 72) := show _ = _ from u.cells_length HUW.out.by_ HUW.out.tag
              have HO1 := Lib.hid (own_below HO.out (bw_alloc (Below.refl _ _) (.cells u.cells.toArray 25)) (Nat.le_refl _))
              have HB1a := Lib.hid (bw_alloc HB.out (.cells u.cells.toArray 25))
              clear hrow hgl hu hl2
              go_wp2_with (first
                | (with_reducible refine wpList_load_mid rfl 25 (.tmp 47) rfl g (j * 72) rfl u.cells _ HRG.out Tryd.underlying25 rfl (tx_info HUW.out) ?_)
                | (refine wpList_buildSlice rfl 104 25 1 #[(0, .tmp 48)] rfl u.cells.toArray _ (.agg zlTx.toArray) Tryd.underlying104 txinfo rfl (by decide) (by decide) (by simp only [List.map_toArray, List.map_cons, List.map_nil]; exact txa_fill HUW.out) ?_)
                | ((at_builtin; refine wpList_append_own2 rfl (.tmp 41) (.tmp 49) 104 rfl w2.heap.size 25 _ (.agg zlTx.toArray) 72 136 Tryd.underlying104 txinfo rfl rfl rfl rfl (by decide) _ rs.length (tcells rs) rfl HO1.out ⟨wr.heap.size, 0, none⟩ 1 1 u.cells rfl HL72.out news_at (start_one _) (by have := HNR.out; unfold maxLen; omega) (by have := HNR.out; omega) HB1a.out.size ?_); intro v9 w9 hO9 hg9 hn9))
              have hO9' : w9.ownsRow w2.heap.size 25 72 v9 (rs ++ [u]).length (tcells (rs ++ [u])) := by
                rw [List.length_append, tcells_app, tcells_one]
                exact hO9
              obtain ⟨q9, c9, rfl, -⟩ := own_tcs2 hO9'
              have HO9 := Lib.hid hO9'
              have HB9 := Lib.hid (HB1a.out.grown hg9 HB1a.out.size (fun k hk => own_blk HO1.out k hk))
              have HSUB9 : Hid (∀ y ∈ rs ++ [u], y ∈ ts) := show ∀ y ∈ _, _ from fun y hy => by
                rcases List.mem_append.1 hy with h | h
                · exact HSUB.out y h
                · rw [List.mem_singleton.1 h]; exact HUM.out
              have hl9 : (rs ++ [u]).length ≤ j + 1 := by have := HNR.out; simp only [List.length_append, List.length_cons, List.length_nil]; omega
              clear hO9 hg9 hn9 hO9'
              go_roundw
              case rel => exact ⟨j + 1, q9, _, c9, rs ++ [u], by omega, hl9, rfl, by go_num, rfl, HSUB9, HO9, HB9⟩
              case measure => simp [intOf]; omega
          · obtain rfl : j = m := by omega
            have hd2 : decide ((j : Int) < j) = false := by simp
            have hX7 : XG (wr.setCell ⟨x, 2, none⟩ (.slice qr nr cr)) base x fl nx nb (.slice qr nr cr) rs := XG.rest HX2.out HB.out HSUB.out (by have := HNR.out; have := HM.out; omega) HO.out (Nat.le_refl _) (Nat.le_trans hbs HBw.out.size)
            have hf2 : wr.frozen? ⟨x, 2, none⟩ = false := frozen_of_row wr x 2 _ _ (show wr.heap[x]? = some (.cells [Value.int .i64 fl, .slice (some ⟨nb, 0, none⟩) 64 64, .slice q j c].toArray 106 (0, 0)) from (HX2.out.below HB.out).row)
            have hT7 : XTurn w2 (wr.setCell ⟨x, 2, none⟩ (.slice qr nr cr)) x nb (.slice q j c) := ⟨HB.out.os, HB.out.tape, HB.out.output, Nat.le_trans HB.out.size (by simp [World.setCell]), fun k hk h1 _ _ => (heap_setCell_other _ _ _ _ h1).trans (HB.out.block k hk)⟩
            have HOW : Hid (OwnNew w (.slice q j c) (.slice qr nr cr)) := show OwnNew _ _ _ from fun k hk => .inr (Nat.le_trans HBw.out.size (own_blk HO.out k hk))
            have HX7 := Lib.hid hX7
            have HT7 := Lib.hid (XTurn.after HBw.out hT7)
            have HG7 : Hid ((wr.setCell ⟨x, 2, none⟩ (.slice qr nr cr)).heap[w.heap.size]? = some (.cells t.cells.toArray 25 (0, 0))) := show _ = _ from (heap_setCell_other _ _ _ _ (Nat.ne_of_gt (show x < w.heap.size from HLT.out.1))).trans (keep_row HB.out (keep_row HB2.out HG1.out))
            have hlen : rs.length ≤ j := by have := HNR.out; omega
            clear hX7 hT7
            cases d
            · go_wp2_with fail
              generalize wr.setCell ⟨x, 2, none⟩ (.slice qr nr cr) = w7 at *
              go_wp2_with fail
              go_ret
              exact ⟨⟨_, rfl⟩, ⟨nx, _, rs, HX7.out, by have := HM.out; omega, by rw [← HM.out]; exact HOW.out⟩, by rw [← HM.out]; exact HT7.out⟩
            · go_upto_region 13 with fail
              generalize wr.setCell ⟨x, 2, none⟩ (.slice qr nr cr) = w7 at *
              have k0 : w7.cell? ⟨w.heap.size, 0, none⟩ = some (.int .i64 fr) := by rw [← HFR.out, cell_of_row w7 _ 0 _ _ _ HG7.out]; rfl
              have k1 := HX7.out.c1
              have g1 : w7.cell? ⟨nb, fr, none⟩ = some (.int .i64 nn) := by rw [HNN.out]; exact HX7.out.cn hfr64
              clear c2 hf2
              go_wp2_with fail
              go_still_tail 15, (by kernel_rfl)
              change wpList _ _ _ _ _ w7.drew
              have g2 : w7.drew.cell? ⟨nb, fr, none⟩ = some (.int .i64 nn) := g1
              have gf : w7.drew.frozen? ⟨nb, fr, none⟩ = false := frozen_of_row w7.drew nb fr _ _ (show w7.drew.heap[nb]? = some (.cells (nums64 nx).toArray 3 (0, 0)) from HX7.out.nrow)
              have HX8 := Lib.hid (HX7.out.below (Below.refl _ _).drew)
              have HT8 := Lib.hid (HT7.out.next (Below.refl _ _).drew)
              clear k0 k1 g1 HX7 HT7
              generalize w7.drew = w8 at *
              go_wp2_with fail
              go_ret
              exact ⟨⟨_, rfl⟩, ⟨_, _, rs, HX8.out.setn _, by have := HM.out; omega, by rw [← HM.out]; exact HOW.out⟩, by rw [← HM.out]; exact ⟨HT8.out.os, HT8.out.tape, HT8.out.output, Nat.le_trans HT8.out.size (by simp [World.setCell]), fun k hk h1 h2 h3 => (heap_setCell_other _ _ _ _ h2).trans (HT8.out.block k hk h1 h2 h3)⟩⟩
      · go_wp2_with fail
        go_ret
        exact ⟨⟨_, rfl⟩, ⟨nx, lv, ts, HX2.out, Nat.le_refl _, OwnNew.refl _ _⟩, XTurn.of _ _ _ HBw.out⟩
end Go.Proofs.YtckfdmkjeocadaaDoor
