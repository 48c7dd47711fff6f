/- tx.Read: what the call does. tx.Read: its body's list. tx.Read: a text of three, with a lane (printed by mkreadb.py out of the text of two). -/
import Derived.Test.YtckfdmkjeocadaaDoorTxText
import Derived.Test.YtckfdmkjeocadaaDoorReg
import Derived.Deep.DeepCutAuto
namespace Go.Proofs.YtckfdmkjeocadaaDoor
open Go.RowKit
set_option maxHeartbeats 1000000
set_option maxRecDepth 4000
def rdPost (w : World) (r : Except Int TX) (e : Ending) (w' : World) : Prop :=
  e = .returned (.tuple #[.agg (txOf r).cells.toArray, .int .i64 (errOf r)]) ∧ Below w.heap.size w w'
theorem tx_zero (w : World) : (zeroValue 25).run Tryd.prog w = .ok (.agg zlTx.toArray) w := by kernel_rfl
theorem tx_build0 (w : World) : (Instr.build 25 #[]).run Tryd.prog w = .ok (.agg zlTx.toArray) w :=
  run_build_struct (parts := #[]) (places := #[(0, 1), (1, 1), (2, 1), (3, 1), (4, 1), (5, 1), (6, 1), (7, 1), (8, 32), (40, 32)]) w (tx_zero w) Tryd.underlying25 (by kernel_rfl) rfl
theorem zlTx_info : (Tryd.prog.info? 25).map (·.size) = some zlTx.length := by kernel_rfl
theorem zlTx_one : ∀ v ∈ zlTx, v.oneCell' = true := by decide
theorem read_err1 (s : ByteArray) (w : World) (hs : s.size ≤ 140737488355328) {x : Int} (hr : rdAll s = .error x) : Calls Tryd.prog 15 #[.string s] w (rdPost w (.error x)) := by
  have HC := tlist_any s
  rw [hr] at HC
  have hx0 := rdAll_err hr
  clear hr
  have hz0 : (w.alloc (.cells zlTx.toArray 25)).heap[w.heap.size]? = some (.cells zlTx.toArray 25 (0, 0)) := heap_alloc_new _ _
  go_enter Tryd.func15, Tryd.ntmps15
  go_wp2_with fail
  refine (HC _ hs).mono ?_
  rintro e w1 ⟨hb, v, rfl⟩
  have hz1 := (hb.block w.heap.size (by simp)).trans hz0
  have HB := Lib.hid (bw_call (bw_alloc (Below.refl w.heap.size w) _) hb)
  clear hb hz0
  go_wp2_with (first
    | (with_reducible refine wpList_build rfl 25 [] rfl [] (.agg zlTx.toArray) rfl (tx_build0 _) ?_)
    | ((with_reducible refine wpList_store_whole rfl 25 (.tmp 2) (.tmp 22) rfl w.heap.size zlTx zlTx 25 rfl rfl hz1 rfl zlTx_info zlTx_one ?_); intro w2 hU))
  exact post_cell_tmp 2 3 25 rfl w.heap.size _ zlTx _ _ hU.out.at_ Tryd.underlying25 rfl zlTx_info (.int .i64 x) rfl rfl rfl ⟨rfl, hU.out.below HB.out (Nat.le_refl _)⟩
theorem own_view {w : World} {base : Nat} {v : Value} {ls : List ByteArray} (h : w.ownsRow base 9 1 v ls.length (strs ls)) (h0 : 0 < ls.length) :
    ∃ g c, v = .slice (some ⟨g, 0, none⟩) ls.length c ∧ base ≤ g ∧ g < w.heap.size ∧ ∀ k (h : k < ls.length), w.cell? ⟨g, k, none⟩ = some (.string (ls[k]'h)) := by
  rcases h.2 with ⟨_, h1⟩ | ⟨g, cap, cur, rfl, hg, hh, _, _, _, ht⟩
  · omega
  · refine ⟨g, cap, rfl, hg, block_lt hh, fun k hk => ?_⟩
    rw [cell_of_row w g k cur _ (0, 0) hh]
    have : (List.take (ls.length * 1) cur.toList)[k]? = (strs ls)[k]? := by rw [ht]
    rw [List.getElem?_take_of_lt (by omega)] at this
    rw [← Array.getElem?_toList, this]
    simp [strs, List.getElem?_eq_getElem hk]
theorem own_head {w : World} {base n : Nat} {e : TypeId} {v : Value} {xs : List Value} (h : w.ownsRow base e 1 v n xs) : ∃ q c, v = .slice q n c := by
  rcases h.2 with ⟨rfl, rfl⟩ | ⟨g, cap, cur, rfl, _⟩
  · exact ⟨_, _, rfl⟩
  · exact ⟨_, _, rfl⟩
/-- a list of another length -/
theorem read_len (s : ByteArray) (w : World) (hs : s.size ≤ 140737488355328) {l : List ByteArray} (hr : rdAll s = .ok l) (h2 : l.length ≠ 2) (h3 : l.length ≠ 3) : Calls Tryd.prog 15 #[.string s] w (rdPost w (.error 6)) := by
  have HC := tlist_any s
  rw [hr] at HC
  clear hr
  have hz0 : (w.alloc (.cells zlTx.toArray 25)).heap[w.heap.size]? = some (.cells zlTx.toArray 25 (0, 0)) := heap_alloc_new _ _
  go_enter Tryd.func15, Tryd.ntmps15
  go_wp2_with fail
  refine (HC _ hs).mono ?_
  rintro e w1 ⟨hb, v, rfl, ho⟩
  obtain ⟨q, c, rfl⟩ := own_head ho
  have hz1 := (hb.block w.heap.size (by simp)).trans hz0
  have HB := Lib.hid (bw_call (bw_alloc (Below.refl w.heap.size w) _) hb)
  clear hb hz0 ho
  go_wp2_with (first
    | (with_reducible refine wpList_build rfl 25 [] rfl [] (.agg zlTx.toArray) rfl (tx_build0 _) ?_)
    | ((with_reducible refine wpList_store_whole rfl 25 (.tmp 2) (.tmp 49) rfl w.heap.size zlTx zlTx 25 rfl rfl hz1 rfl zlTx_info zlTx_one ?_); intro w2 hU))
  exact post_cell_tmp 2 3 25 rfl w.heap.size _ zlTx _ _ hU.out.at_ Tryd.underlying25 rfl zlTx_info (.int .i64 6) rfl rfl rfl ⟨rfl, hU.out.below HB.out (Nat.le_refl _)⟩
/-- two, the second not of 32 bytes -/
theorem read_tag2 (s : ByteArray) (w : World) (hs : s.size ≤ 140737488355328) {x y : ByteArray} (hr : rdAll s = .ok [x, y]) (hy : y.size ≠ 32) : Calls Tryd.prog 15 #[.string s] w (rdPost w (.error 6)) := by
  have HC := tlist_any s
  rw [hr] at HC
  clear hr
  have hz0 : (w.alloc (.cells zlTx.toArray 25)).heap[w.heap.size]? = some (.cells zlTx.toArray 25 (0, 0)) := heap_alloc_new _ _
  go_enter Tryd.func15, Tryd.ntmps15
  go_wp2_with fail
  refine (HC _ hs).mono ?_
  rintro e w1 ⟨hb, v, rfl, ho⟩
  obtain ⟨g, c, rfl, hg, hg2, hc⟩ := own_view ho (by simp)
  have hc1 : w1.cell? ⟨g, 1, none⟩ = some (.string y) := hc 1 (by simp)
  have hz1 := (hb.block w.heap.size (by simp)).trans hz0
  have HB := Lib.hid (bw_call (bw_alloc (Below.refl w.heap.size w) _) hb)
  clear hb hz0 ho hc
  go_wp2_with (first
    | (with_reducible refine wpList_build rfl 25 [] rfl [] (.agg zlTx.toArray) rfl (tx_build0 _) ?_)
    | ((with_reducible refine wpList_store_whole rfl 25 (.tmp 2) (.tmp 49) rfl w.heap.size zlTx zlTx 25 rfl rfl hz1 rfl zlTx_info zlTx_one ?_); intro w2 hU))
  exact post_cell_tmp 2 3 25 rfl w.heap.size _ zlTx _ _ hU.out.at_ Tryd.underlying25 rfl zlTx_info (.int .i64 6) rfl rfl rfl ⟨rfl, hU.out.below HB.out (Nat.le_refl _)⟩
/-- three, the second or the third not of 32 bytes -/
theorem read_tag3 (s : ByteArray) (w : World) (hs : s.size ≤ 140737488355328) {x y z : ByteArray} (hr : rdAll s = .ok [x, y, z]) (hy : ¬(y.size = 32 ∧ z.size = 32)) : Calls Tryd.prog 15 #[.string s] w (rdPost w (.error 6)) := by
  have HC := tlist_any s
  rw [hr] at HC
  clear hr
  have hz0 : (w.alloc (.cells zlTx.toArray 25)).heap[w.heap.size]? = some (.cells zlTx.toArray 25 (0, 0)) := heap_alloc_new _ _
  by_cases hy2 : y.size = 32
  · have hz32 : z.size ≠ 32 := fun h => hy ⟨hy2, h⟩
    clear hy
    go_enter Tryd.func15, Tryd.ntmps15
    go_wp2_with fail
    refine (HC _ hs).mono ?_
    rintro e w1 ⟨hb, v, rfl, ho⟩
    obtain ⟨g, c, rfl, hg, hg2, hc⟩ := own_view ho (by simp)
    have hc1 : w1.cell? ⟨g, 1, none⟩ = some (.string y) := hc 1 (by simp)
    have hc2 : w1.cell? ⟨g, 2, none⟩ = some (.string z) := hc 2 (by simp)
    have hz1 := (hb.block w.heap.size (by simp)).trans hz0
    have HB := Lib.hid (bw_call (bw_alloc (Below.refl w.heap.size w) _) hb)
    clear hb hz0 ho hc
    go_wp2_with (first
      | (with_reducible refine wpList_build rfl 25 [] rfl [] (.agg zlTx.toArray) rfl (tx_build0 _) ?_)
      | ((with_reducible refine wpList_store_whole rfl 25 (.tmp 2) (.tmp 49) rfl w.heap.size zlTx zlTx 25 rfl rfl hz1 rfl zlTx_info zlTx_one ?_); intro w2 hU))
    exact post_cell_tmp 2 3 25 rfl w.heap.size _ zlTx _ _ hU.out.at_ Tryd.underlying25 rfl zlTx_info (.int .i64 6) rfl rfl rfl ⟨rfl, hU.out.below HB.out (Nat.le_refl _)⟩
  · clear hy
    go_enter Tryd.func15, Tryd.ntmps15
    go_wp2_with fail
    refine (HC _ hs).mono ?_
    rintro e w1 ⟨hb, v, rfl, ho⟩
    obtain ⟨g, c, rfl, hg, hg2, hc⟩ := own_view ho (by simp)
    have hc1 : w1.cell? ⟨g, 1, none⟩ = some (.string y) := hc 1 (by simp)
    have hz1 := (hb.block w.heap.size (by simp)).trans hz0
    have HB := Lib.hid (bw_call (bw_alloc (Below.refl w.heap.size w) _) hb)
    clear hb hz0 ho hc
    go_wp2_with (first
      | (with_reducible refine wpList_build rfl 25 [] rfl [] (.agg zlTx.toArray) rfl (tx_build0 _) ?_)
      | ((with_reducible refine wpList_store_whole rfl 25 (.tmp 2) (.tmp 49) rfl w.heap.size zlTx zlTx 25 rfl rfl hz1 rfl zlTx_info zlTx_one ?_); intro w2 hU))
    exact post_cell_tmp 2 3 25 rfl w.heap.size _ zlTx _ _ hU.out.at_ Tryd.underlying25 rfl zlTx_info (.int .i64 6) rfl rfl rfl ⟨rfl, hU.out.below HB.out (Nat.le_refl _)⟩
open Go.RowKit
theorem tx_build3 (d : ByteArray) (ln : Bool) {h : List UInt8} (hl : h.length = 32) (w : World) :
    (Instr.build 25 #[(5, .bool ln), (4, .string d), (9, .agg (u8s h).toArray)]).run Tryd.prog w = .ok (.agg (TX.start d ln h).cells.toArray) w := by
  refine run_build_struct (places := #[(0, 1), (1, 1), (2, 1), (3, 1), (4, 1), (5, 1), (6, 1), (7, 1), (8, 32), (40, 32)]) w (tx_zero w) Tryd.underlying25 (by kernel_rfl) ?_
  have hl2 : (u8s h).length = 32 := by rw [u8s_length, hl]
  rw [fill_cons (off := 5) (size := 1) rfl rfl (by decide), fill_cons (off := 4) (size := 1) rfl rfl (Nat.le_of_ble_eq_true rfl), fill_cons (off := 40) (size := 32) rfl (by simpa [Value.cells] using hl2) (Nat.le_of_ble_eq_true rfl)]
  rw [Instr.fill]
  congr 1
  rw [zlTx_eq]
  show (splice (splice (splice TX.zero.cells 5 [.bool ln]) 4 [.string d]) 40 (u8s h)).toArray = _
  congr 1
  have e1 : splice (splice TX.zero.cells 5 [.bool ln]) 4 [.string d] = [.int .i64 0, .int .i64 0, .int .i64 0, .int .i64 0, .string d, .bool ln, .int .i64 0, .int .i64 0] ++ (u8s z32 ++ u8s z32) := rfl
  rw [e1, splice, hl2]
  simp [TX.start, TX.cells, u8s_length, z32_length]
theorem tx_alloc (w : World) : (Instr.alloc 25 true (.tuple #[])).run Tryd.prog w = .ok (.pointer (some ⟨w.heap.size, 0, none⟩)) (w.alloc (.cells zlTx.toArray 25)) := by
  unfold Instr.alloc
  simp only [Sem.run_bind, tx_zero, Result.andThen_ok]
  rfl
theorem start_info (d : ByteArray) (ln : Bool) {h : List UInt8} (hl : h.length = 32) : (Tryd.prog.info? 25).map (·.size) = some (TX.start d ln h).cells.length := by rw [TX.cells_length _ rfl hl]; kernel_rfl
theorem start_one (t : TX) : ∀ v ∈ t.cells, v.oneCell' = true := by
  intro v hv
  unfold TX.cells at hv
  rcases List.mem_append.1 hv with hv | hv
  · simp only [List.mem_cons, List.not_mem_nil, or_false] at hv
    rcases hv with rfl | rfl | rfl | rfl | rfl | rfl | rfl | rfl <;> rfl
  · rcases List.mem_append.1 hv with hv | hv
    · exact u8s_one _ v hv
    · exact u8s_one _ v hv
theorem hash_pre (y : ByteArray) (rest : List Value) : ∀ (j : Nat) (v : Value), (u8s y.data.toList)[j]? = some v → (u8s y.data.toList ++ rest)[0 + j]? = some v := by
  intro j v h
  rw [Nat.zero_add, List.getElem?_append_left (List.getElem?_eq_some_iff.1 h).1]
  exact h
theorem run_arr (p : Option Addr) (c : Nat) (w : World) : (Instr.arrayAt 23 (.slice p 32 c)).run Tryd.prog w = .ok (.pointer p) w := by
  unfold Instr.arrayAt
  simp only [Sem.run_bind, run_underlying Tryd.underlying23, Result.andThen_ok]
  rfl
def ptrs (tb : Nat) : List Value := [.pointer (some ⟨tb, 0, none⟩), .pointer (some ⟨tb, 1, none⟩), .pointer (some ⟨tb, 2, none⟩), .pointer (some ⟨tb, 3, none⟩), .pointer none, .pointer (some ⟨tb, 6, none⟩), .pointer (some ⟨tb, 7, none⟩)]
theorem ptr_at {w : World} {pb tb : Nat} {T : TypeId} {fr : Nat × Nat} (h : w.heap[pb]? = some (.cells (ptrs tb).toArray T fr)) {k : Nat} (hk : k < 7) (h4 : k ≠ 4) : w.cell? ⟨pb, k, none⟩ = some (.pointer (some ⟨tb, numOff k, none⟩)) := by
  rw [cell_of_row w pb k _ _ _ h]
  match k with
  | 0 | 1 | 2 | 3 | 5 | 6 => rfl
  | 4 => exact absurd rfl h4
theorem num_cell (t : TX) {k : Nat} (hk : k < 7) (h4 : k ≠ 4) : ∃ v, t.cells[numOff k]? = some v := by
  match k with
  | 0 | 1 | 2 | 3 | 5 | 6 => exact ⟨_, rfl⟩
  | 4 => exact absurd rfl h4
theorem free_of_row {w : World} {b i : Nat} {cs : Array Value} {t : TypeId} (h : w.heap[b]? = some (.cells cs t (0, 0))) : w.frozen? ⟨b, i, none⟩ = false := by simp [World.frozen?, h]
set_option maxHeartbeats 1000000
set_option maxRecDepth 4000
theorem read_in2 (s : ByteArray) (w : World) (hs : s.size ≤ 140737488355328) {x y : ByteArray} (hr : rdAll s = .ok [x, y]) (hy : y.size = 32) : Calls Tryd.prog 15 #[.string s] w (rdPost w (rdParts x y none)) := by
  have hx : x.size ≤ 140737488355328 := Nat.le_trans (rdAll_sizes hr x (by simp)) (by decide)
  have HC := tlist_any s
  rw [hr] at HC
  clear hr
  have HC2 := tlist_any x
  have hz0 : (w.alloc (.cells zlTx.toArray 25)).heap[w.heap.size]? = some (.cells zlTx.toArray 25 (0, 0)) := heap_alloc_new _ _
  obtain ⟨R, hR⟩ : ∃ R, R = rdParts x y none := ⟨_, rfl⟩
  rw [← hR]
  cases hr2 : rdAll x with
  | error k =>
    have HR : Hid (R = .error k) := show _ = _ by rw [hR, rdParts, hr2]
    have hx0 := rdAll_err hr2
    rw [hr2] at HC2
    clear hR hr2
    go_enter Tryd.func15, Tryd.ntmps15
    go_wp2_with fail
    refine (HC _ hs).mono ?_
    rintro e w1 ⟨hb, v, rfl, ho⟩
    obtain ⟨g, c, rfl, hg, hg2, hc⟩ := own_view ho (by simp)
    have hc0 : w1.cell? ⟨g, 0, none⟩ = some (.string x) := hc 0 (by simp)
    have hc1 : w1.cell? ⟨g, 1, none⟩ = some (.string y) := hc 1 (by simp)
    have hz1 := (hb.block w.heap.size (by simp)).trans hz0
    have HB := Lib.hid (bw_call (bw_alloc (Below.refl w.heap.size w) _) hb)
    clear hb hz0 ho hc
    go_wp2_with fail
    refine (HC2 _ hx).mono ?_
    rintro e w3 ⟨hb3, v3, rfl⟩
    have hz3 := (hb3.block w.heap.size (block_lt hz1)).trans hz1
    have HB3 := Lib.hid (bw_call HB.out hb3)
    clear hb3 hz1 hc0 hc1
    go_wp2_with (first
      | (with_reducible refine wpList_build rfl 25 [] rfl [] (.agg zlTx.toArray) rfl (tx_build0 _) ?_)
      | ((with_reducible refine wpList_store_whole rfl 25 (.tmp 2) (.tmp 59) rfl w.heap.size zlTx zlTx 25 rfl rfl hz3 rfl zlTx_info zlTx_one ?_); intro w2 hU))
    rw [HR.out]
    exact post_cell_tmp 2 3 25 rfl w.heap.size _ zlTx _ _ hU.out.at_ Tryd.underlying25 rfl zlTx_info (.int .i64 k) rfl rfl rfl ⟨rfl, hU.out.below HB3.out (Nat.le_refl _)⟩
  | ok b =>
    rw [hr2] at HC2
    by_cases hbl : b.length = 5
    · have HRD : Hid (R = rdBody b (TX.start (b.getD 4 ByteArray.empty) false y.data.toList) z32) := show _ = _ by rw [hR, rdParts, hr2]; simp [hbl]
      have HBS := Lib.hid (rdAll_sizes hr2)
      obtain ⟨d, hd⟩ : ∃ d, d = b.getD 4 ByteArray.empty := ⟨_, rfl⟩
      rw [← hd] at HRD
      have hd4 : b[4]? = some d := by rw [hd, List.getD_eq_getElem?_getD, List.getElem?_eq_getElem (by omega)]; rfl
      clear hR hr2
      go_enter Tryd.func15, Tryd.ntmps15
      go_wp2_with fail
      refine (HC _ hs).mono ?_
      rintro e w1 ⟨hb, v, rfl, ho⟩
      obtain ⟨g, c, rfl, hg, hg2, hc⟩ := own_view ho (by simp)
      have hc0 : w1.cell? ⟨g, 0, none⟩ = some (.string x) := hc 0 (by simp)
      have hc1 : w1.cell? ⟨g, 1, none⟩ = some (.string y) := hc 1 (by simp)
      have hz1 := (hb.block w.heap.size (by simp)).trans hz0
      have HB := Lib.hid (bw_call (bw_alloc (Below.refl w.heap.size w) _) hb)
      clear hb hz0 ho hc
      go_wp2_with fail
      refine (HC2 _ hx).mono ?_
      rintro e w3 ⟨hb3, v3, rfl, ho3⟩
      obtain ⟨g3, c3, rfl, hg3, hg4, hc3⟩ := own_view ho3 (by omega)
      have hc4 : w3.cell? ⟨g3, 4, none⟩ = some (.string d) := by rw [hc3 4 (by omega)]; rw [List.getElem?_eq_getElem (by omega)] at hd4; injection hd4 with hd4; rw [hd4]
      have hc5 : w3.cell? ⟨g, 1, none⟩ = some (.string y) := (hb3.cell (p := ⟨g, 1, none⟩) hg2).trans hc1
      have hz3 := Lib.hid ((hb3.block w.heap.size (block_lt hz1)).trans hz1)
      have HB3 := Lib.hid (bw_call HB.out hb3)
      have HO3 := Lib.hid hc3
      have HD4 := Lib.hid (List.mem_of_getElem? hd4)
      clear hb3 hz1 hc0 hc1 ho3 hc3 hd hd4
      go_wp2_with fail
      go_cut [7] (fun p7 wx => ∃ tb, p7 = .pointer (some ⟨tb, 0, none⟩) ∧ w3.heap.size ≤ tb ∧ Hid (Below w3.heap.size w3 wx) ∧ Hid (wx.heap[tb]? = some (.cells (TX.start d false y.data.toList).cells.toArray 25 (0, 0))))
      case first =>
        refine wp_region_held_drew (S := fun W => W.cell? ⟨g3, 4, none⟩ = some (.string d) ∧ W.cell? ⟨g, 1, none⟩ = some (.string y)) (by kernel_rfl) ⟨hc4, hc5⟩ (fun hHeld => ?_)
        refine rg_gen (i := 0) (v := ?_) rfl (by kernel_rfl) (by kernel_rfl) (by kernel_rfl) (fun _ _ _ h => h) rfl (by rfl) ?_ (by assumption) ?_
        rotate_left
        · intro w hSw
          try dsimp only at hSw
          go_simp
          try with_reducible rfl
        simp only [Act.put, List.setIfInBounds_toArray, List.set_cons_zero, List.set_cons_succ]
        refine rg_gen (i := 1) (v := ?_) rfl (by kernel_rfl) (by kernel_rfl) (by kernel_rfl) (fun _ _ _ h => h) rfl (by rfl) ?_ (by assumption) ?_
        rotate_left
        · intro w hSw
          try dsimp only at hSw
          go_simp
          try with_reducible rfl
        simp only [Act.put, List.setIfInBounds_toArray, List.set_cons_zero, List.set_cons_succ]
        refine rg_gen (i := 2) (v := ?_) rfl (by kernel_rfl) (by kernel_rfl) (by kernel_rfl) (fun _ _ _ h => h) rfl (by rfl) ?_ (by assumption) ?_
        rotate_left
        · intro w hSw
          try dsimp only at hSw
          go_simp
          try with_reducible rfl
        simp only [Act.put, List.setIfInBounds_toArray, List.set_cons_zero, List.set_cons_succ]
        refine rg_gen (i := 3) (v := ?_) rfl (by kernel_rfl) (by kernel_rfl) (by kernel_rfl) (fun _ _ _ h => h) rfl (by rfl) ?_ (by assumption) ?_
        rotate_left
        · intro w hSw
          try dsimp only at hSw
          go_simp
          try with_reducible rfl
        simp only [Act.put, List.setIfInBounds_toArray, List.set_cons_zero, List.set_cons_succ]
        refine rg_gen (i := 4) (v := ?_) rfl (by kernel_rfl) (by kernel_rfl) (by kernel_rfl) (fun _ _ _ h => h) rfl (by rfl) ?_ (by assumption) ?_
        rotate_left
        · intro w hSw
          try dsimp only at hSw
          go_simp
          try with_reducible rfl
        simp only [Act.put, List.setIfInBounds_toArray, List.set_cons_zero, List.set_cons_succ]
        refine rg_gen (i := 5) (v := ?_) rfl (by kernel_rfl) (by kernel_rfl) (by kernel_rfl) (fun _ _ _ h => h) rfl (by rfl) ?_ (by assumption) ?_
        rotate_left
        · intro w hSw
          try dsimp only at hSw
          go_simp
          try with_reducible rfl
        simp only [Act.put, List.setIfInBounds_toArray, List.set_cons_zero, List.set_cons_succ]
        refine rg_gen (i := 6) (v := ?_) rfl (by kernel_rfl) (by kernel_rfl) (by kernel_rfl) (fun _ _ _ h => h) rfl (by rfl) ?_ (by assumption) ?_
        rotate_left
        · intro w hSw
          try dsimp only at hSw
          go_simp
          try with_reducible rfl
        simp only [Act.put, List.setIfInBounds_toArray, List.set_cons_zero, List.set_cons_succ]
        refine rg_gen (i := 7) (v := ?_) rfl (by kernel_rfl) (by kernel_rfl) (by kernel_rfl) (fun _ _ _ h => h) rfl (by rfl) ?_ (by assumption) ?_
        rotate_left
        · intro w hSw
          try dsimp only at hSw
          go_simp
          try with_reducible rfl
        simp only [Act.put, List.setIfInBounds_toArray, List.set_cons_zero, List.set_cons_succ]
        refine rg_gen (i := 8) (v := ?_) rfl (by kernel_rfl) (by kernel_rfl) (by kernel_rfl) (fun _ _ _ h => h) rfl (by rfl) ?_ (by assumption) ?_
        rotate_left
        · intro w hSw
          try dsimp only at hSw
          go_simp
          try with_reducible rfl
        simp only [Act.put, List.setIfInBounds_toArray, List.set_cons_zero, List.set_cons_succ]
        generalize HW4 : w3.drew = w4 at *
        have HB4 : Below w3.heap.size w3 w4 := by rw [← HW4]; exact (Below.refl _ _).drew
        refine wpAnyH_ready (rs := [9, 13]) (by kernel_rfl) (by simp) ?_
        refine AllReadyH.cons rfl (fun K hK => ?_) (AllReadyH.cons rfl (fun K hK => ?_) AllReadyH.nil)
        · obtain ⟨cc, W1, hrun, hB1, hsz1, rest, fr, hblk⟩ := conv_bytes Tryd.underlying9 Tryd.underlying79 Tryd.underlying5 w4 y
          rw [hy] at hrun
          refine rg_step (s := convert 9 79 (.string y)) (by rfl) rfl rfl hrun ?_
          refine hK.out _ _ ⟨(hB1.cell (block_of_cell hHeld.1)).trans hHeld.1, (hB1.cell (block_of_cell hHeld.2)).trans hHeld.2⟩ (fun hHeld1 => ?_)
          clear hK K
          simp only [Act.put, List.setIfInBounds_toArray, List.set_cons_zero, List.set_cons_succ]
          refine rg_take (i := 10) (s := Instr.arrayAt 23 (.slice (some ⟨w4.heap.size, 0, none⟩) 32 cc)) rfl (by kernel_rfl) (by kernel_rfl) (by kernel_rfl) (fun _ _ _ h => h) rfl (by rfl) rfl (fun W _ => run_arr _ _ W) (by assumption) ?_
          simp only [Act.put, List.setIfInBounds_toArray, List.set_cons_zero, List.set_cons_succ]
          refine wpAnyH_ready (rs := [11, 13]) (by kernel_rfl) (by simp) ?_
          refine AllReadyH.cons rfl (fun K hK => ?_) (AllReadyH.cons rfl (fun K hK => ?_) AllReadyH.nil)
          · refine rg_load (by rfl) rfl 23 (.tmp 79) rfl w4.heap.size 0 (u8s y.data.toList) _ _ _ _ rfl hblk (hash_pre y rest) Tryd.underlying23 rfl (hash_info hy) ?_
            refine hK.out _ _ hHeld1 (fun hHeld2 => ?_)
            clear hK K
            simp only [Act.put, List.setIfInBounds_toArray, List.set_cons_zero, List.set_cons_succ]
            refine rg_build (i := 12) rfl (by kernel_rfl) (by kernel_rfl) (by kernel_rfl) (fun _ _ _ h => h) rfl (by rfl) 25 [(5, .tmp 71), (4, .tmp 74), (9, .tmp 80)] rfl [(5, .bool false), (4, .string d), (9, .agg (u8s y.data.toList).toArray)] rfl (tx_build3 d false hy) (by assumption) ?_
            simp only [Act.put, List.setIfInBounds_toArray, List.set_cons_zero, List.set_cons_succ]
            refine rg_one (i := 13) (by kernel_rfl) rfl (fun K hK => ?_)
            refine rg_step (s := Instr.alloc 25 true (.tuple #[])) (by rfl) rfl rfl (tx_alloc W1) ?_
            refine hK.out _ _ ⟨(((Below.refl W1.heap.size W1).alloc (Nat.le_refl _) _).cell (block_of_cell hHeld2.1)).trans hHeld2.1, (((Below.refl W1.heap.size W1).alloc (Nat.le_refl _) _).cell (block_of_cell hHeld2.2)).trans hHeld2.2⟩ (fun hHeld3 => ?_)
            clear hK K
            simp only [Act.put, List.setIfInBounds_toArray, List.set_cons_zero, List.set_cons_succ]
            refine rg_one (i := 14) (by kernel_rfl) rfl (fun K hK => ?_)
            refine rg_store (by rfl) rfl 25 (.tmp 7) (.tmp 81) rfl W1.heap.size (TX.start d false y.data.toList).cells zlTx 25 rfl rfl (heap_alloc_new W1 _) (TX.cells_length (TX.start d false y.data.toList) rfl hy) (start_info d false hy) (start_one _) (fun W5 hU => ?_)
            have hBW : Below w3.heap.size w3 (W1.alloc (.cells zlTx.toArray 25)) := (HB4.trans (hB1.mono HB4.size)).alloc (Nat.le_trans HB4.size hB1.size) _
            have hB5 := hU.below hBW (Nat.le_trans HB4.size hB1.size)
            have hU2 := hU.below (Below.refl W1.heap.size _) (Nat.le_refl _)
            refine hK.out _ _ ⟨(hU2.cell (block_of_cell hHeld2.1)).trans hHeld3.1, (hU2.cell (block_of_cell hHeld2.2)).trans hHeld3.2⟩ (fun hHeld4 => ?_)
            clear hK K
            refine wpAnyH_done (by kernel_rfl) ?_ _
            go_wp2_with fail
            go_meet
            case rel => exact ⟨W1.heap.size, rfl, Nat.le_trans HB4.size hB1.size, hB5, hU.at_⟩
          · refine rg_step (s := Instr.alloc 25 true (.tuple #[])) (by rfl) rfl rfl (tx_alloc W1) ?_
            refine hK.out _ _ ⟨(((Below.refl W1.heap.size W1).alloc (Nat.le_refl _) _).cell (block_of_cell hHeld1.1)).trans hHeld1.1, (((Below.refl W1.heap.size W1).alloc (Nat.le_refl _) _).cell (block_of_cell hHeld1.2)).trans hHeld1.2⟩ (fun hHeld3 => ?_)
            clear hK K
            simp only [Act.put, List.setIfInBounds_toArray, List.set_cons_zero, List.set_cons_succ]
            have hblk2 := (Below.heap_alloc W1 (.cells zlTx.toArray 25) _ (block_lt hblk)).trans hblk
            refine rg_one (i := 11) (by kernel_rfl) rfl (fun K hK => ?_)
            refine rg_load (by rfl) rfl 23 (.tmp 79) rfl w4.heap.size 0 (u8s y.data.toList) _ _ _ _ rfl hblk2 (hash_pre y rest) Tryd.underlying23 rfl (hash_info hy) ?_
            refine hK.out _ _ hHeld3 (fun hHeld2 => ?_)
            clear hK K
            simp only [Act.put, List.setIfInBounds_toArray, List.set_cons_zero, List.set_cons_succ]
            refine rg_build (i := 12) rfl (by kernel_rfl) (by kernel_rfl) (by kernel_rfl) (fun _ _ _ h => h) rfl (by rfl) 25 [(5, .tmp 71), (4, .tmp 74), (9, .tmp 80)] rfl [(5, .bool false), (4, .string d), (9, .agg (u8s y.data.toList).toArray)] rfl (tx_build3 d false hy) (by assumption) ?_
            simp only [Act.put, List.setIfInBounds_toArray, List.set_cons_zero, List.set_cons_succ]
            refine rg_one (i := 14) (by kernel_rfl) rfl (fun K hK => ?_)
            refine rg_store (by rfl) rfl 25 (.tmp 7) (.tmp 81) rfl W1.heap.size (TX.start d false y.data.toList).cells zlTx 25 rfl rfl (heap_alloc_new W1 _) (TX.cells_length (TX.start d false y.data.toList) rfl hy) (start_info d false hy) (start_one _) (fun W5 hU => ?_)
            have hBW : Below w3.heap.size w3 (W1.alloc (.cells zlTx.toArray 25)) := (HB4.trans (hB1.mono HB4.size)).alloc (Nat.le_trans HB4.size hB1.size) _
            have hB5 := hU.below hBW (Nat.le_trans HB4.size hB1.size)
            have hU2 := hU.below (Below.refl W1.heap.size _) (Nat.le_refl _)
            refine hK.out _ _ ⟨(hU2.cell (block_of_cell hHeld1.1)).trans hHeld3.1, (hU2.cell (block_of_cell hHeld1.2)).trans hHeld3.2⟩ (fun hHeld4 => ?_)
            clear hK K
            refine wpAnyH_done (by kernel_rfl) ?_ _
            go_wp2_with fail
            go_meet
            case rel => exact ⟨W1.heap.size, rfl, Nat.le_trans HB4.size hB1.size, hB5, hU.at_⟩
        · refine rg_step (s := Instr.alloc 25 true (.tuple #[])) (by rfl) rfl rfl (tx_alloc w4) ?_
          refine hK.out _ _ ⟨(((Below.refl w4.heap.size w4).alloc (Nat.le_refl _) _).cell (block_of_cell hHeld.1)).trans hHeld.1, (((Below.refl w4.heap.size w4).alloc (Nat.le_refl _) _).cell (block_of_cell hHeld.2)).trans hHeld.2⟩ (fun hHeld1 => ?_)
          clear hK K
          simp only [Act.put, List.setIfInBounds_toArray, List.set_cons_zero, List.set_cons_succ]
          have hz7 := heap_alloc_new w4 (.cells zlTx.toArray 25)
          have hB7 : Below w3.heap.size w3 (w4.alloc (.cells zlTx.toArray 25)) := HB4.alloc HB4.size _
          have hlt7 := block_lt hz7
          generalize HW7 : w4.alloc (.cells zlTx.toArray 25) = w7 at *
          obtain ⟨cc, W1, hrun, hB1, hsz1, rest, fr, hblk⟩ := conv_bytes Tryd.underlying9 Tryd.underlying79 Tryd.underlying5 w7 y
          rw [hy] at hrun
          refine rg_one (i := 9) (by kernel_rfl) rfl (fun K hK => ?_)
          refine rg_step (s := convert 9 79 (.string y)) (by rfl) rfl rfl hrun ?_
          refine hK.out _ _ ⟨(hB1.cell (block_of_cell hHeld1.1)).trans hHeld1.1, (hB1.cell (block_of_cell hHeld1.2)).trans hHeld1.2⟩ (fun hHeld3 => ?_)
          clear hK K
          simp only [Act.put, List.setIfInBounds_toArray, List.set_cons_zero, List.set_cons_succ]
          refine rg_take (i := 10) (s := Instr.arrayAt 23 (.slice (some ⟨w7.heap.size, 0, none⟩) 32 cc)) rfl (by kernel_rfl) (by kernel_rfl) (by kernel_rfl) (fun _ _ _ h => h) rfl (by rfl) rfl (fun W _ => run_arr _ _ W) (by assumption) ?_
          simp only [Act.put, List.setIfInBounds_toArray, List.set_cons_zero, List.set_cons_succ]
          refine rg_one (i := 11) (by kernel_rfl) rfl (fun K hK => ?_)
          refine rg_load (by rfl) rfl 23 (.tmp 79) rfl w7.heap.size 0 (u8s y.data.toList) _ _ _ _ rfl hblk (hash_pre y rest) Tryd.underlying23 rfl (hash_info hy) ?_
          refine hK.out _ _ hHeld3 (fun hHeld2 => ?_)
          clear hK K
          simp only [Act.put, List.setIfInBounds_toArray, List.set_cons_zero, List.set_cons_succ]
          refine rg_build (i := 12) rfl (by kernel_rfl) (by kernel_rfl) (by kernel_rfl) (fun _ _ _ h => h) rfl (by rfl) 25 [(5, .tmp 71), (4, .tmp 74), (9, .tmp 80)] rfl [(5, .bool false), (4, .string d), (9, .agg (u8s y.data.toList).toArray)] rfl (tx_build3 d false hy) (by assumption) ?_
          simp only [Act.put, List.setIfInBounds_toArray, List.set_cons_zero, List.set_cons_succ]
          refine rg_one (i := 14) (by kernel_rfl) rfl (fun K hK => ?_)
          refine rg_store (by rfl) rfl 25 (.tmp 7) (.tmp 81) rfl w4.heap.size (TX.start d false y.data.toList).cells zlTx 25 rfl rfl ((hB1.block _ hlt7).trans hz7) (TX.cells_length (TX.start d false y.data.toList) rfl hy) (start_info d false hy) (start_one _) (fun W5 hU => ?_)
          have hB5 := hU.below (hB7.trans (hB1.mono hB7.size)) HB4.size
          have hU2 := hU.below (Below.refl w4.heap.size _) (Nat.le_refl _)
          refine hK.out _ _ ⟨(hU2.cell (block_of_cell hHeld.1)).trans hHeld3.1, (hU2.cell (block_of_cell hHeld.2)).trans hHeld3.2⟩ (fun hHeld4 => ?_)
          clear hK K
          refine wpAnyH_done (by kernel_rfl) ?_ _
          go_wp2_with fail
          go_meet
          case rel => exact ⟨w4.heap.size, rfl, HB4.size, hB5, hU.at_⟩
      case rest =>
        obtain ⟨tb, rfl, htb, hB7, hT7⟩ := hcut
        go_wp2_with fail
        have hPB0 : (wc.alloc (.cells (ptrs tb).toArray 84)).heap[wc.heap.size]? = some (.cells (ptrs tb).toArray 84 (0, 0)) := heap_alloc_new wc _
        have hB8 : Below w3.heap.size w3 (wc.alloc (.cells (ptrs tb).toArray 84)) := hB7.out.alloc hB7.out.size _
        have hT8 := (Below.heap_alloc wc (.cells (ptrs tb).toArray 84) _ (block_lt hT7.out)).trans hT7.out
        have hpt : wc.heap.size ≠ tb := Nat.ne_of_gt (block_lt hT7.out)
        obtain ⟨pb, hpb⟩ : ∃ pb, pb = wc.heap.size := ⟨_, rfl⟩
        rw [← hpb] at hPB0 hpt ⊢
        have HPB0 := Lib.hid hPB0
        have HB8 := Lib.hid hB8
        have HT8 := Lib.hid hT8
        have HST := Lib.hid (TX.start_wf (l := false) (HBS.out d HD4.out) hy)
        have HRR := Lib.hid (HRD.out.trans (rdRest_zero _ _ _))
        clear hpb hPB0 hB8 hT8 hB7 hT7 hc4 hc5
        go_loopw [91] (fun i wr => ∃ (k : Nat) (t : TX), k ≤ 5 ∧ i = .int .i64 k ∧ Hid (t.wf ∧ t.lane = false) ∧ Hid (R = rdRest k b t z32) ∧ Hid (Below w3.heap.size w3 wr) ∧ Hid (wr.heap[tb]? = some (.cells t.cells.toArray 25 (0, 0))) ∧ Hid (wr.heap[pb]? = some (.cells (ptrs tb).toArray 84 (0, 0)))) (fun i _ => 5 - (intOf i).toNat)
        case atStart => exact ⟨0, TX.start d false y.data.toList, by omega, rfl, ⟨HST.out, rfl⟩, HRR.out, HB8.out, HT8.out, HPB0.out⟩
        case round =>
          clear HPB0 HB8 HT8 HST HRR HRD
          obtain ⟨k, t, hk, rfl, hW, hR, hB, hT, hP⟩ := hrel
          by_cases hlt : k < 5
          · have hkb : k < b.length := by omega
            have hcb := (hB.out.cell (p := ⟨g3, k, none⟩) hg4).trans (HO3.out k hkb)
            by_cases h4 : k = 4
            · subst h4
              have HR5 := Lib.hid (hR.out.trans (rdRest_skip hkb))
              go_wp2_with fail
              go_roundw
              case rel => exact ⟨5, t, by omega, by go_num, hW.out, HR5.out, hB.out, hT.out, hP.out⟩
              case measure => simp [intOf]
            · have hxs : (b[k]'hkb).size ≤ 140737488355328 := Nat.le_trans (HBS.out _ (List.getElem_mem hkb)) (by decide)
              cases hN : rdN (b[k]'hkb).data.toList with
              | error e =>
                have hx0 := ne0_of (rdN_err hN)
                have HRE : Hid (R = .error e) := show _ = _ from hR.out.trans (rdRest_err hkb h4 (by simp [rdNum, hN]))
                have HCN := Lib.hid (fun w => rn_error (b[k]'hkb) 0 w hxs (Nat.zero_le _) (x := e) (by rw [List.drop_zero]; exact hN))
                have hzr := (hB.out.block _ (block_lt hz3.out)).trans hz3.out
                have HBR := Lib.hid (HB3.out.trans (hB.out.mono HB3.out.size))
                clear hN
                go_wp2_with fail
                refine (HCN.out _).mono ?_
                rintro e2 w9 ⟨rfl, hw9⟩
                subst hw9
                go_wp2_with (first
                  | (with_reducible refine wpList_build rfl 25 [] rfl [] (.agg zlTx.toArray) rfl (tx_build0 _) ?_)
                  | ((with_reducible refine wpList_store_whole rfl 25 (.tmp 2) (.tmp 114) rfl w.heap.size zlTx zlTx 25 rfl rfl hzr rfl zlTx_info zlTx_one ?_); intro w2 hU))
                rw [HRE.out]
                exact post_cell_tmp 2 3 25 rfl w.heap.size _ zlTx _ _ hU.out.at_ Tryd.underlying25 rfl zlTx_info (.int .i64 e) rfl rfl rfl ⟨rfl, hU.out.below HBR.out (Nat.le_refl _)⟩
              | ok p =>
                obtain ⟨n, c2⟩ := p
                have h0 := rdN_ok hN
                have hn : n ≤ 9223372036854775807 := h0.2.2.2
                have HCN := Lib.hid (fun w => rn_value (b[k]'hkb) 0 w hxs (Nat.zero_le _) (n := n) (c := c2) (by rw [List.drop_zero]; exact hN))
                by_cases hcs : c2 = (b[k]'hkb).size
                · have HRK := Lib.hid (hR.out.trans (rdRest_ok hkb h4 (n := n) (by simp [rdNum, hN, hcs])))
                  have HWF := Lib.hid (TX.upd_wf hW.out.1 k n hn)
                  have hci : (c2 : Int) = (b[k]'hkb).size := by omega
                  have hpc := ptr_at hP.out (k := k) (by omega) h4
                  obtain ⟨tv, htv⟩ := num_cell t (k := k) (by omega) h4
                  have htc : wr.cell? ⟨tb, numOff k, none⟩ = some tv := by rw [cell_of_row wr tb (numOff k) _ _ _ hT.out, List.getElem?_toArray]; exact htv
                  have htf : wr.frozen? ⟨tb, numOff k, none⟩ = false := free_of_row hT.out
                  have HT2 : Hid ((wr.setCell ⟨tb, numOff k, none⟩ (.int .i64 n)).heap[tb]? = some (.cells (t.upd k n).cells.toArray 25 (0, 0))) := show _ = _ by
                    rw [heap_setCell_same wr tb (numOff k) _ _ _ hT.out, List.setIfInBounds_toArray, TX.upd_cells t k n (by omega) h4]
                  have HP2 := Lib.hid ((heap_setCell_other wr ⟨tb, numOff k, none⟩ pb (.int .i64 n) hpt).trans hP.out)
                  have HB2 := Lib.hid (Below.setCell hB.out (p := ⟨tb, numOff k, none⟩) htb (.int .i64 n))
                  have HL2 := Lib.hid ((TX.upd_same t k n).2.1.trans hW.out.2)
                  clear hN h0 htv
                  go_wp2_with fail
                  refine (HCN.out _).mono ?_
                  rintro e2 w9 ⟨rfl, hw9⟩
                  subst hw9
                  rw [Nat.zero_add]
                  go_wp2_with fail
                  go_roundw
                  case rel => exact ⟨k + 1, t.upd k n, by omega, by go_num, ⟨HWF.out, HL2.out⟩, HRK.out, HB2.out, HT2.out, HP2.out⟩
                  case measure => simp [intOf]; omega
                · have HRE : Hid (R = .error 6) := show _ = _ from hR.out.trans (rdRest_err hkb h4 (by simp [rdNum, hN, hcs]))
                  have hci : (c2 : Int) ≠ (b[k]'hkb).size := by omega
                  have hzr := (hB.out.block _ (block_lt hz3.out)).trans hz3.out
                  have HBR := Lib.hid (HB3.out.trans (hB.out.mono HB3.out.size))
                  clear hN h0
                  go_wp2_with fail
                  refine (HCN.out _).mono ?_
                  rintro e2 w9 ⟨rfl, hw9⟩
                  subst hw9
                  rw [Nat.zero_add]
                  go_wp2_with (first
                    | (with_reducible refine wpList_build rfl 25 [] rfl [] (.agg zlTx.toArray) rfl (tx_build0 _) ?_)
                    | ((with_reducible refine wpList_store_whole rfl 25 (.tmp 2) (.tmp 114) rfl w.heap.size zlTx zlTx 25 rfl rfl hzr rfl zlTx_info zlTx_one ?_); intro w2 hU))
                  rw [HRE.out]
                  exact post_cell_tmp 2 3 25 rfl w.heap.size _ zlTx _ _ hU.out.at_ Tryd.underlying25 rfl zlTx_info (.int .i64 6) rfl rfl rfl ⟨rfl, hU.out.below HBR.out (Nat.le_refl _)⟩
          · obtain rfl : k = 5 := by omega
            have HRE := Lib.hid (hR.out.trans (rdRest_end hbl.symm))
            have hln : wr.cell? ⟨tb, 5, none⟩ = some (.bool false) := by rw [cell_of_row wr tb 5 _ _ _ hT.out, List.getElem?_toArray, ← hW.out.2]; rfl
            have hTg := hT.out
            have hzr := (hB.out.block _ (block_lt hz3.out)).trans hz3.out
            have HBR := Lib.hid (HB3.out.trans (hB.out.mono HB3.out.size))
            go_wp2_with (with_reducible refine wpList_load_rows rfl 25 (.tmp 7) rfl tb 0 t.cells t.cells 25 (0, 0) _ rfl hTg id_at Tryd.underlying25 rfl (tx_info hW.out.1) ?_)
            refine (check_any t _ hW.out.1).mono ?_
            rintro e2 w9 ⟨rfl, hb9⟩
            have hTg9 := (hb9.block _ (block_lt hTg)).trans hTg
            have hzr9 := (hb9.block _ (block_lt hzr)).trans hzr
            have HB9 := Lib.hid (bw_call HBR.out hb9)
            obtain ⟨kc, hkc⟩ : ∃ kc, kc = t.chk := ⟨_, rfl⟩
            rw [← hkc]
            have HKC := Lib.hid hkc
            clear hb9 hTg hzr hln hkc
            by_cases hc0 : kc = 0
            · have HRF : Hid (R = .ok t) := show _ = _ by rw [HRE.out, if_neg (by rw [hW.out.2]; decide), rdEnd, if_pos (HKC.out.symm.trans hc0)]
              subst hc0
              have hLEN : Hid (t.cells.length = zlTx.length) := show _ = _ from t.cells_length hW.out.1.by_ hW.out.1.tag
              go_wp2_with (first
                | (with_reducible refine wpList_load_rows rfl 25 (.tmp 7) rfl tb 0 t.cells t.cells 25 (0, 0) _ rfl hTg9 id_at Tryd.underlying25 rfl (tx_info hW.out.1) ?_)
                | ((with_reducible refine wpList_store_whole rfl 25 (.tmp 2) (.tmp 138) rfl w.heap.size t.cells zlTx 25 rfl rfl hzr9 hLEN.out (tx_info hW.out.1) (start_one t) ?_); intro w2 hU))
              rw [HRF.out]
              exact post_cell_tmp 2 3 25 rfl w.heap.size _ t.cells _ _ hU.out.at_ Tryd.underlying25 rfl (tx_info hW.out.1) (.int .i64 0) rfl rfl rfl ⟨rfl, hU.out.below HB9.out (Nat.le_refl _)⟩
            · have HRF : Hid (R = .error kc) := show _ = _ by rw [HRE.out, if_neg (by rw [hW.out.2]; decide), rdEnd, if_neg (by rw [← HKC.out]; exact hc0), ← HKC.out]
              have hc1 : (kc != 0) = true := by simpa using hc0
              go_wp2_with (first
                | (with_reducible refine wpList_build rfl 25 [] rfl [] (.agg zlTx.toArray) rfl (tx_build0 _) ?_)
                | ((with_reducible refine wpList_store_whole rfl 25 (.tmp 2) (.tmp 136) rfl w.heap.size zlTx zlTx 25 rfl rfl hzr9 rfl zlTx_info zlTx_one ?_); intro w2 hU))
              rw [HRF.out]
              exact post_cell_tmp 2 3 25 rfl w.heap.size _ zlTx _ _ hU.out.at_ Tryd.underlying25 rfl zlTx_info (.int .i64 kc) rfl rfl rfl ⟨rfl, hU.out.below HB9.out (Nat.le_refl _)⟩
    · have HR : Hid (R = .error 6) := show _ = _ by rw [hR, rdParts, hr2]; simp [hbl]
      clear hR hr2
      go_enter Tryd.func15, Tryd.ntmps15
      go_wp2_with fail
      refine (HC _ hs).mono ?_
      rintro e w1 ⟨hb, v, rfl, ho⟩
      obtain ⟨g, c, rfl, hg, hg2, hc⟩ := own_view ho (by simp)
      have hc0 : w1.cell? ⟨g, 0, none⟩ = some (.string x) := hc 0 (by simp)
      have hc1 : w1.cell? ⟨g, 1, none⟩ = some (.string y) := hc 1 (by simp)
      have hz1 := (hb.block w.heap.size (by simp)).trans hz0
      have HB := Lib.hid (bw_call (bw_alloc (Below.refl w.heap.size w) _) hb)
      clear hb hz0 ho hc
      go_wp2_with fail
      refine (HC2 _ hx).mono ?_
      rintro e w3 ⟨hb3, v3, rfl, ho3⟩
      obtain ⟨q3, c3, rfl⟩ := own_head ho3
      have hz3 := (hb3.block w.heap.size (block_lt hz1)).trans hz1
      have HB3 := Lib.hid (bw_call HB.out hb3)
      clear hb3 hz1 hc0 hc1 ho3
      go_wp2_with (first
        | (with_reducible refine wpList_build rfl 25 [] rfl [] (.agg zlTx.toArray) rfl (tx_build0 _) ?_)
        | ((with_reducible refine wpList_store_whole rfl 25 (.tmp 2) (.tmp 68) rfl w.heap.size zlTx zlTx 25 rfl rfl hz3 rfl zlTx_info zlTx_one ?_); intro w2 hU))
      rw [HR.out]
      exact post_cell_tmp 2 3 25 rfl w.heap.size _ zlTx _ _ hU.out.at_ Tryd.underlying25 rfl zlTx_info (.int .i64 6) rfl rfl rfl ⟨rfl, hU.out.below HB3.out (Nat.le_refl _)⟩
open Go.RowKit
set_option maxHeartbeats 2000000
set_option maxRecDepth 4000
theorem by_fits {t : TX} {z : ByteArray} (h : t.wf) (hz : z.size = 32) : 8 + (u8s z.data.toList).length ≤ t.cells.length := by
  rw [TX.cells_length t h.by_ h.tag, u8s_length]
  have : z.data.toList.length = 32 := hz
  omega
theorem by_cells {t : TX} {z : ByteArray} (h : t.wf) (hz : z.size = 32) : splice t.cells 8 (u8s z.data.toList) = (setBy t z.data.toList).cells := by
  have h1 : (u8s z.data.toList).length = 32 := by rw [u8s_length]; exact hz
  have h2 : (u8s t.by_).length = 32 := by rw [u8s_length]; exact h.by_
  unfold splice
  rw [h1]
  simp [TX.cells, setBy, h2]
theorem by_wf {t : TX} {z : ByteArray} (h : t.wf) (hz : z.size = 32) : (setBy t z.data.toList).wf := ⟨h.frm, h.nonce, h.fee, h.to_, h.data, h.round, h.turn, hz, h.tag⟩
theorem read_in3 (s : ByteArray) (w : World) (hs : s.size ≤ 140737488355328) {x y z : ByteArray} (hr : rdAll s = .ok [x, y, z]) (hy : y.size = 32) (hz : z.size = 32) : Calls Tryd.prog 15 #[.string s] w (rdPost w (rdParts x y (some z))) := by
  have hx : x.size ≤ 140737488355328 := Nat.le_trans (rdAll_sizes hr x (by simp)) (by decide)
  have HC := tlist_any s
  rw [hr] at HC
  clear hr
  have HC2 := tlist_any x
  have hz0 : (w.alloc (.cells zlTx.toArray 25)).heap[w.heap.size]? = some (.cells zlTx.toArray 25 (0, 0)) := heap_alloc_new _ _
  obtain ⟨R, hR⟩ : ∃ R, R = rdParts x y (some z) := ⟨_, rfl⟩
  rw [← hR]
  cases hr2 : rdAll x with
  | error k =>
    have HR : Hid (R = .error k) := show _ = _ by rw [hR, rdParts, hr2]
    have hx0 := rdAll_err hr2
    rw [hr2] at HC2
    clear hR hr2
    go_enter Tryd.func15, Tryd.ntmps15
    go_wp2_with fail
    refine (HC _ hs).mono ?_
    rintro e w1 ⟨hb, v, rfl, ho⟩
    obtain ⟨g, c, rfl, hg, hg2, hc⟩ := own_view ho (by simp)
    have hc0 : w1.cell? ⟨g, 0, none⟩ = some (.string x) := hc 0 (by simp)
    have hc1 : w1.cell? ⟨g, 1, none⟩ = some (.string y) := hc 1 (by simp)
    have hc2 : w1.cell? ⟨g, 2, none⟩ = some (.string z) := hc 2 (by simp)
    have hz1 := (hb.block w.heap.size (by simp)).trans hz0
    have HB := Lib.hid (bw_call (bw_alloc (Below.refl w.heap.size w) _) hb)
    clear hb hz0 ho hc
    go_wp2_with fail
    refine (HC2 _ hx).mono ?_
    rintro e w3 ⟨hb3, v3, rfl⟩
    have hz3 := (hb3.block w.heap.size (block_lt hz1)).trans hz1
    have HB3 := Lib.hid (bw_call HB.out hb3)
    clear hb3 hz1 hc0 hc1 hc2
    go_wp2_with (first
      | (with_reducible refine wpList_build rfl 25 [] rfl [] (.agg zlTx.toArray) rfl (tx_build0 _) ?_)
      | ((with_reducible refine wpList_store_whole rfl 25 (.tmp 2) (.tmp 59) rfl w.heap.size zlTx zlTx 25 rfl rfl hz3 rfl zlTx_info zlTx_one ?_); intro w2 hU))
    rw [HR.out]
    exact post_cell_tmp 2 3 25 rfl w.heap.size _ zlTx _ _ hU.out.at_ Tryd.underlying25 rfl zlTx_info (.int .i64 k) rfl rfl rfl ⟨rfl, hU.out.below HB3.out (Nat.le_refl _)⟩
  | ok b =>
    rw [hr2] at HC2
    by_cases hbl : b.length = 7
    · have HRD : Hid (R = rdBody b (TX.start (b.getD 4 ByteArray.empty) true y.data.toList) z.data.toList) := show _ = _ by rw [hR, rdParts, hr2]; simp [hbl]
      have HBS := Lib.hid (rdAll_sizes hr2)
      obtain ⟨d, hd⟩ : ∃ d, d = b.getD 4 ByteArray.empty := ⟨_, rfl⟩
      rw [← hd] at HRD
      have hd4 : b[4]? = some d := by rw [hd, List.getD_eq_getElem?_getD, List.getElem?_eq_getElem (by omega)]; rfl
      clear hR hr2
      go_enter Tryd.func15, Tryd.ntmps15
      go_wp2_with fail
      refine (HC _ hs).mono ?_
      rintro e w1 ⟨hb, v, rfl, ho⟩
      obtain ⟨g, c, rfl, hg, hg2, hc⟩ := own_view ho (by simp)
      have hc0 : w1.cell? ⟨g, 0, none⟩ = some (.string x) := hc 0 (by simp)
      have hc1 : w1.cell? ⟨g, 1, none⟩ = some (.string y) := hc 1 (by simp)
      have hc2 : w1.cell? ⟨g, 2, none⟩ = some (.string z) := hc 2 (by simp)
      have hz1 := (hb.block w.heap.size (by simp)).trans hz0
      have HB := Lib.hid (bw_call (bw_alloc (Below.refl w.heap.size w) _) hb)
      clear hb hz0 ho hc
      go_wp2_with fail
      refine (HC2 _ hx).mono ?_
      rintro e w3 ⟨hb3, v3, rfl, ho3⟩
      obtain ⟨g3, c3, rfl, hg3, hg4, hc3⟩ := own_view ho3 (by omega)
      have hc4 : w3.cell? ⟨g3, 4, none⟩ = some (.string d) := by rw [hc3 4 (by omega)]; rw [List.getElem?_eq_getElem (by omega)] at hd4; injection hd4 with hd4; rw [hd4]
      have hc5 : w3.cell? ⟨g, 1, none⟩ = some (.string y) := (hb3.cell (p := ⟨g, 1, none⟩) hg2).trans hc1
      have HC6 := Lib.hid ((hb3.cell (p := ⟨g, 2, none⟩) hg2).trans hc2)
      have HG := Lib.hid (Nat.lt_of_lt_of_le hg2 hb3.size)
      have hz3 := Lib.hid ((hb3.block w.heap.size (block_lt hz1)).trans hz1)
      have HB3 := Lib.hid (bw_call HB.out hb3)
      have HO3 := Lib.hid hc3
      have HD4 := Lib.hid (List.mem_of_getElem? hd4)
      clear hb3 hz1 hc0 hc1 hc2 ho3 hc3 hd hd4
      go_wp2_with fail
      go_cut [7] (fun p7 wx => ∃ tb, p7 = .pointer (some ⟨tb, 0, none⟩) ∧ w3.heap.size ≤ tb ∧ Hid (Below w3.heap.size w3 wx) ∧ Hid (wx.heap[tb]? = some (.cells (TX.start d true y.data.toList).cells.toArray 25 (0, 0))))
      case first =>
        refine wp_region_held_drew (S := fun W => W.cell? ⟨g3, 4, none⟩ = some (.string d) ∧ W.cell? ⟨g, 1, none⟩ = some (.string y)) (by kernel_rfl) ⟨hc4, hc5⟩ (fun hHeld => ?_)
        refine rg_gen (i := 0) (v := ?_) rfl (by kernel_rfl) (by kernel_rfl) (by kernel_rfl) (fun _ _ _ h => h) rfl (by rfl) ?_ (by assumption) ?_
        rotate_left
        · intro w hSw
          try dsimp only at hSw
          go_simp
          try with_reducible rfl
        simp only [Act.put, List.setIfInBounds_toArray, List.set_cons_zero, List.set_cons_succ]
        refine rg_gen (i := 1) (v := ?_) rfl (by kernel_rfl) (by kernel_rfl) (by kernel_rfl) (fun _ _ _ h => h) rfl (by rfl) ?_ (by assumption) ?_
        rotate_left
        · intro w hSw
          try dsimp only at hSw
          go_simp
          try with_reducible rfl
        simp only [Act.put, List.setIfInBounds_toArray, List.set_cons_zero, List.set_cons_succ]
        refine rg_gen (i := 2) (v := ?_) rfl (by kernel_rfl) (by kernel_rfl) (by kernel_rfl) (fun _ _ _ h => h) rfl (by rfl) ?_ (by assumption) ?_
        rotate_left
        · intro w hSw
          try dsimp only at hSw
          go_simp
          try with_reducible rfl
        simp only [Act.put, List.setIfInBounds_toArray, List.set_cons_zero, List.set_cons_succ]
        refine rg_gen (i := 3) (v := ?_) rfl (by kernel_rfl) (by kernel_rfl) (by kernel_rfl) (fun _ _ _ h => h) rfl (by rfl) ?_ (by assumption) ?_
        rotate_left
        · intro w hSw
          try dsimp only at hSw
          go_simp
          try with_reducible rfl
        simp only [Act.put, List.setIfInBounds_toArray, List.set_cons_zero, List.set_cons_succ]
        refine rg_gen (i := 4) (v := ?_) rfl (by kernel_rfl) (by kernel_rfl) (by kernel_rfl) (fun _ _ _ h => h) rfl (by rfl) ?_ (by assumption) ?_
        rotate_left
        · intro w hSw
          try dsimp only at hSw
          go_simp
          try with_reducible rfl
        simp only [Act.put, List.setIfInBounds_toArray, List.set_cons_zero, List.set_cons_succ]
        refine rg_gen (i := 5) (v := ?_) rfl (by kernel_rfl) (by kernel_rfl) (by kernel_rfl) (fun _ _ _ h => h) rfl (by rfl) ?_ (by assumption) ?_
        rotate_left
        · intro w hSw
          try dsimp only at hSw
          go_simp
          try with_reducible rfl
        simp only [Act.put, List.setIfInBounds_toArray, List.set_cons_zero, List.set_cons_succ]
        refine rg_gen (i := 6) (v := ?_) rfl (by kernel_rfl) (by kernel_rfl) (by kernel_rfl) (fun _ _ _ h => h) rfl (by rfl) ?_ (by assumption) ?_
        rotate_left
        · intro w hSw
          try dsimp only at hSw
          go_simp
          try with_reducible rfl
        simp only [Act.put, List.setIfInBounds_toArray, List.set_cons_zero, List.set_cons_succ]
        refine rg_gen (i := 7) (v := ?_) rfl (by kernel_rfl) (by kernel_rfl) (by kernel_rfl) (fun _ _ _ h => h) rfl (by rfl) ?_ (by assumption) ?_
        rotate_left
        · intro w hSw
          try dsimp only at hSw
          go_simp
          try with_reducible rfl
        simp only [Act.put, List.setIfInBounds_toArray, List.set_cons_zero, List.set_cons_succ]
        refine rg_gen (i := 8) (v := ?_) rfl (by kernel_rfl) (by kernel_rfl) (by kernel_rfl) (fun _ _ _ h => h) rfl (by rfl) ?_ (by assumption) ?_
        rotate_left
        · intro w hSw
          try dsimp only at hSw
          go_simp
          try with_reducible rfl
        simp only [Act.put, List.setIfInBounds_toArray, List.set_cons_zero, List.set_cons_succ]
        generalize HW4 : w3.drew = w4 at *
        have HB4 : Below w3.heap.size w3 w4 := by rw [← HW4]; exact (Below.refl _ _).drew
        refine wpAnyH_ready (rs := [9, 13]) (by kernel_rfl) (by simp) ?_
        refine AllReadyH.cons rfl (fun K hK => ?_) (AllReadyH.cons rfl (fun K hK => ?_) AllReadyH.nil)
        · obtain ⟨cc, W1, hrun, hB1, hsz1, rest, fr, hblk⟩ := conv_bytes Tryd.underlying9 Tryd.underlying79 Tryd.underlying5 w4 y
          rw [hy] at hrun
          refine rg_step (s := convert 9 79 (.string y)) (by rfl) rfl rfl hrun ?_
          refine hK.out _ _ ⟨(hB1.cell (block_of_cell hHeld.1)).trans hHeld.1, (hB1.cell (block_of_cell hHeld.2)).trans hHeld.2⟩ (fun hHeld1 => ?_)
          clear hK K
          simp only [Act.put, List.setIfInBounds_toArray, List.set_cons_zero, List.set_cons_succ]
          refine rg_take (i := 10) (s := Instr.arrayAt 23 (.slice (some ⟨w4.heap.size, 0, none⟩) 32 cc)) rfl (by kernel_rfl) (by kernel_rfl) (by kernel_rfl) (fun _ _ _ h => h) rfl (by rfl) rfl (fun W _ => run_arr _ _ W) (by assumption) ?_
          simp only [Act.put, List.setIfInBounds_toArray, List.set_cons_zero, List.set_cons_succ]
          refine wpAnyH_ready (rs := [11, 13]) (by kernel_rfl) (by simp) ?_
          refine AllReadyH.cons rfl (fun K hK => ?_) (AllReadyH.cons rfl (fun K hK => ?_) AllReadyH.nil)
          · refine rg_load (by rfl) rfl 23 (.tmp 79) rfl w4.heap.size 0 (u8s y.data.toList) _ _ _ _ rfl hblk (hash_pre y rest) Tryd.underlying23 rfl (hash_info hy) ?_
            refine hK.out _ _ hHeld1 (fun hHeld2 => ?_)
            clear hK K
            simp only [Act.put, List.setIfInBounds_toArray, List.set_cons_zero, List.set_cons_succ]
            refine rg_build (i := 12) rfl (by kernel_rfl) (by kernel_rfl) (by kernel_rfl) (fun _ _ _ h => h) rfl (by rfl) 25 [(5, .tmp 71), (4, .tmp 74), (9, .tmp 80)] rfl [(5, .bool true), (4, .string d), (9, .agg (u8s y.data.toList).toArray)] rfl (tx_build3 d true hy) (by assumption) ?_
            simp only [Act.put, List.setIfInBounds_toArray, List.set_cons_zero, List.set_cons_succ]
            refine rg_one (i := 13) (by kernel_rfl) rfl (fun K hK => ?_)
            refine rg_step (s := Instr.alloc 25 true (.tuple #[])) (by rfl) rfl rfl (tx_alloc W1) ?_
            refine hK.out _ _ ⟨(((Below.refl W1.heap.size W1).alloc (Nat.le_refl _) _).cell (block_of_cell hHeld2.1)).trans hHeld2.1, (((Below.refl W1.heap.size W1).alloc (Nat.le_refl _) _).cell (block_of_cell hHeld2.2)).trans hHeld2.2⟩ (fun hHeld3 => ?_)
            clear hK K
            simp only [Act.put, List.setIfInBounds_toArray, List.set_cons_zero, List.set_cons_succ]
            refine rg_one (i := 14) (by kernel_rfl) rfl (fun K hK => ?_)
            refine rg_store (by rfl) rfl 25 (.tmp 7) (.tmp 81) rfl W1.heap.size (TX.start d true y.data.toList).cells zlTx 25 rfl rfl (heap_alloc_new W1 _) (TX.cells_length (TX.start d true y.data.toList) rfl hy) (start_info d true hy) (start_one _) (fun W5 hU => ?_)
            have hBW : Below w3.heap.size w3 (W1.alloc (.cells zlTx.toArray 25)) := (HB4.trans (hB1.mono HB4.size)).alloc (Nat.le_trans HB4.size hB1.size) _
            have hB5 := hU.below hBW (Nat.le_trans HB4.size hB1.size)
            have hU2 := hU.below (Below.refl W1.heap.size _) (Nat.le_refl _)
            refine hK.out _ _ ⟨(hU2.cell (block_of_cell hHeld2.1)).trans hHeld3.1, (hU2.cell (block_of_cell hHeld2.2)).trans hHeld3.2⟩ (fun hHeld4 => ?_)
            clear hK K
            refine wpAnyH_done (by kernel_rfl) ?_ _
            go_wp2_with fail
            go_meet
            case rel => exact ⟨W1.heap.size, rfl, Nat.le_trans HB4.size hB1.size, hB5, hU.at_⟩
          · refine rg_step (s := Instr.alloc 25 true (.tuple #[])) (by rfl) rfl rfl (tx_alloc W1) ?_
            refine hK.out _ _ ⟨(((Below.refl W1.heap.size W1).alloc (Nat.le_refl _) _).cell (block_of_cell hHeld1.1)).trans hHeld1.1, (((Below.refl W1.heap.size W1).alloc (Nat.le_refl _) _).cell (block_of_cell hHeld1.2)).trans hHeld1.2⟩ (fun hHeld3 => ?_)
            clear hK K
            simp only [Act.put, List.setIfInBounds_toArray, List.set_cons_zero, List.set_cons_succ]
            have hblk2 := (Below.heap_alloc W1 (.cells zlTx.toArray 25) _ (block_lt hblk)).trans hblk
            refine rg_one (i := 11) (by kernel_rfl) rfl (fun K hK => ?_)
            refine rg_load (by rfl) rfl 23 (.tmp 79) rfl w4.heap.size 0 (u8s y.data.toList) _ _ _ _ rfl hblk2 (hash_pre y rest) Tryd.underlying23 rfl (hash_info hy) ?_
            refine hK.out _ _ hHeld3 (fun hHeld2 => ?_)
            clear hK K
            simp only [Act.put, List.setIfInBounds_toArray, List.set_cons_zero, List.set_cons_succ]
            refine rg_build (i := 12) rfl (by kernel_rfl) (by kernel_rfl) (by kernel_rfl) (fun _ _ _ h => h) rfl (by rfl) 25 [(5, .tmp 71), (4, .tmp 74), (9, .tmp 80)] rfl [(5, .bool true), (4, .string d), (9, .agg (u8s y.data.toList).toArray)] rfl (tx_build3 d true hy) (by assumption) ?_
            simp only [Act.put, List.setIfInBounds_toArray, List.set_cons_zero, List.set_cons_succ]
            refine rg_one (i := 14) (by kernel_rfl) rfl (fun K hK => ?_)
            refine rg_store (by rfl) rfl 25 (.tmp 7) (.tmp 81) rfl W1.heap.size (TX.start d true y.data.toList).cells zlTx 25 rfl rfl (heap_alloc_new W1 _) (TX.cells_length (TX.start d true y.data.toList) rfl hy) (start_info d true hy) (start_one _) (fun W5 hU => ?_)
            have hBW : Below w3.heap.size w3 (W1.alloc (.cells zlTx.toArray 25)) := (HB4.trans (hB1.mono HB4.size)).alloc (Nat.le_trans HB4.size hB1.size) _
            have hB5 := hU.below hBW (Nat.le_trans HB4.size hB1.size)
            have hU2 := hU.below (Below.refl W1.heap.size _) (Nat.le_refl _)
            refine hK.out _ _ ⟨(hU2.cell (block_of_cell hHeld1.1)).trans hHeld3.1, (hU2.cell (block_of_cell hHeld1.2)).trans hHeld3.2⟩ (fun hHeld4 => ?_)
            clear hK K
            refine wpAnyH_done (by kernel_rfl) ?_ _
            go_wp2_with fail
            go_meet
            case rel => exact ⟨W1.heap.size, rfl, Nat.le_trans HB4.size hB1.size, hB5, hU.at_⟩
        · refine rg_step (s := Instr.alloc 25 true (.tuple #[])) (by rfl) rfl rfl (tx_alloc w4) ?_
          refine hK.out _ _ ⟨(((Below.refl w4.heap.size w4).alloc (Nat.le_refl _) _).cell (block_of_cell hHeld.1)).trans hHeld.1, (((Below.refl w4.heap.size w4).alloc (Nat.le_refl _) _).cell (block_of_cell hHeld.2)).trans hHeld.2⟩ (fun hHeld1 => ?_)
          clear hK K
          simp only [Act.put, List.setIfInBounds_toArray, List.set_cons_zero, List.set_cons_succ]
          have hz7 := heap_alloc_new w4 (.cells zlTx.toArray 25)
          have hB7 : Below w3.heap.size w3 (w4.alloc (.cells zlTx.toArray 25)) := HB4.alloc HB4.size _
          have hlt7 := block_lt hz7
          generalize HW7 : w4.alloc (.cells zlTx.toArray 25) = w7 at *
          obtain ⟨cc, W1, hrun, hB1, hsz1, rest, fr, hblk⟩ := conv_bytes Tryd.underlying9 Tryd.underlying79 Tryd.underlying5 w7 y
          rw [hy] at hrun
          refine rg_one (i := 9) (by kernel_rfl) rfl (fun K hK => ?_)
          refine rg_step (s := convert 9 79 (.string y)) (by rfl) rfl rfl hrun ?_
          refine hK.out _ _ ⟨(hB1.cell (block_of_cell hHeld1.1)).trans hHeld1.1, (hB1.cell (block_of_cell hHeld1.2)).trans hHeld1.2⟩ (fun hHeld3 => ?_)
          clear hK K
          simp only [Act.put, List.setIfInBounds_toArray, List.set_cons_zero, List.set_cons_succ]
          refine rg_take (i := 10) (s := Instr.arrayAt 23 (.slice (some ⟨w7.heap.size, 0, none⟩) 32 cc)) rfl (by kernel_rfl) (by kernel_rfl) (by kernel_rfl) (fun _ _ _ h => h) rfl (by rfl) rfl (fun W _ => run_arr _ _ W) (by assumption) ?_
          simp only [Act.put, List.setIfInBounds_toArray, List.set_cons_zero, List.set_cons_succ]
          refine rg_one (i := 11) (by kernel_rfl) rfl (fun K hK => ?_)
          refine rg_load (by rfl) rfl 23 (.tmp 79) rfl w7.heap.size 0 (u8s y.data.toList) _ _ _ _ rfl hblk (hash_pre y rest) Tryd.underlying23 rfl (hash_info hy) ?_
          refine hK.out _ _ hHeld3 (fun hHeld2 => ?_)
          clear hK K
          simp only [Act.put, List.setIfInBounds_toArray, List.set_cons_zero, List.set_cons_succ]
          refine rg_build (i := 12) rfl (by kernel_rfl) (by kernel_rfl) (by kernel_rfl) (fun _ _ _ h => h) rfl (by rfl) 25 [(5, .tmp 71), (4, .tmp 74), (9, .tmp 80)] rfl [(5, .bool true), (4, .string d), (9, .agg (u8s y.data.toList).toArray)] rfl (tx_build3 d true hy) (by assumption) ?_
          simp only [Act.put, List.setIfInBounds_toArray, List.set_cons_zero, List.set_cons_succ]
          refine rg_one (i := 14) (by kernel_rfl) rfl (fun K hK => ?_)
          refine rg_store (by rfl) rfl 25 (.tmp 7) (.tmp 81) rfl w4.heap.size (TX.start d true y.data.toList).cells zlTx 25 rfl rfl ((hB1.block _ hlt7).trans hz7) (TX.cells_length (TX.start d true y.data.toList) rfl hy) (start_info d true hy) (start_one _) (fun W5 hU => ?_)
          have hB5 := hU.below (hB7.trans (hB1.mono hB7.size)) HB4.size
          have hU2 := hU.below (Below.refl w4.heap.size _) (Nat.le_refl _)
          refine hK.out _ _ ⟨(hU2.cell (block_of_cell hHeld.1)).trans hHeld3.1, (hU2.cell (block_of_cell hHeld.2)).trans hHeld3.2⟩ (fun hHeld4 => ?_)
          clear hK K
          refine wpAnyH_done (by kernel_rfl) ?_ _
          go_wp2_with fail
          go_meet
          case rel => exact ⟨w4.heap.size, rfl, HB4.size, hB5, hU.at_⟩
      case rest =>
        obtain ⟨tb, rfl, htb, hB7, hT7⟩ := hcut
        go_wp2_with fail
        have hPB0 : (wc.alloc (.cells (ptrs tb).toArray 84)).heap[wc.heap.size]? = some (.cells (ptrs tb).toArray 84 (0, 0)) := heap_alloc_new wc _
        have hB8 : Below w3.heap.size w3 (wc.alloc (.cells (ptrs tb).toArray 84)) := hB7.out.alloc hB7.out.size _
        have hT8 := (Below.heap_alloc wc (.cells (ptrs tb).toArray 84) _ (block_lt hT7.out)).trans hT7.out
        have hpt : wc.heap.size ≠ tb := Nat.ne_of_gt (block_lt hT7.out)
        obtain ⟨pb, hpb⟩ : ∃ pb, pb = wc.heap.size := ⟨_, rfl⟩
        rw [← hpb] at hPB0 hpt ⊢
        have HPB0 := Lib.hid hPB0
        have HB8 := Lib.hid hB8
        have HT8 := Lib.hid hT8
        have HST := Lib.hid (TX.start_wf (l := true) (HBS.out d HD4.out) hy)
        have HRR := Lib.hid (HRD.out.trans (rdRest_zero _ _ _))
        clear hpb hPB0 hB8 hT8 hB7 hT7 hc4 hc5
        go_loopw [91] (fun i wr => ∃ (k : Nat) (t : TX), k ≤ 7 ∧ i = .int .i64 k ∧ Hid (t.wf ∧ t.lane = true) ∧ Hid (R = rdRest k b t z.data.toList) ∧ Hid (Below w3.heap.size w3 wr) ∧ Hid (wr.heap[tb]? = some (.cells t.cells.toArray 25 (0, 0))) ∧ Hid (wr.heap[pb]? = some (.cells (ptrs tb).toArray 84 (0, 0)))) (fun i _ => 7 - (intOf i).toNat)
        case atStart => exact ⟨0, TX.start d true y.data.toList, by omega, rfl, ⟨HST.out, rfl⟩, HRR.out, HB8.out, HT8.out, HPB0.out⟩
        case round =>
          clear HPB0 HB8 HT8 HST HRR HRD
          obtain ⟨k, t, hk, rfl, hW, hR, hB, hT, hP⟩ := hrel
          by_cases hlt : k < 7
          · have hkb : k < b.length := by omega
            have hcb := (hB.out.cell (p := ⟨g3, k, none⟩) hg4).trans (HO3.out k hkb)
            by_cases h4 : k = 4
            · subst h4
              have HR5 := Lib.hid (hR.out.trans (rdRest_skip hkb))
              go_wp2_with fail
              go_roundw
              case rel => exact ⟨5, t, by omega, by go_num, hW.out, HR5.out, hB.out, hT.out, hP.out⟩
              case measure => simp [intOf]
            · have hxs : (b[k]'hkb).size ≤ 140737488355328 := Nat.le_trans (HBS.out _ (List.getElem_mem hkb)) (by decide)
              cases hN : rdN (b[k]'hkb).data.toList with
              | error e =>
                have hx0 := ne0_of (rdN_err hN)
                have HRE : Hid (R = .error e) := show _ = _ from hR.out.trans (rdRest_err hkb h4 (by simp [rdNum, hN]))
                have HCN := Lib.hid (fun w => rn_error (b[k]'hkb) 0 w hxs (Nat.zero_le _) (x := e) (by rw [List.drop_zero]; exact hN))
                have hzr := (hB.out.block _ (block_lt hz3.out)).trans hz3.out
                have HBR := Lib.hid (HB3.out.trans (hB.out.mono HB3.out.size))
                clear hN
                go_wp2_with fail
                refine (HCN.out _).mono ?_
                rintro e2 w9 ⟨rfl, hw9⟩
                subst hw9
                go_wp2_with (first
                  | (with_reducible refine wpList_build rfl 25 [] rfl [] (.agg zlTx.toArray) rfl (tx_build0 _) ?_)
                  | ((with_reducible refine wpList_store_whole rfl 25 (.tmp 2) (.tmp 114) rfl w.heap.size zlTx zlTx 25 rfl rfl hzr rfl zlTx_info zlTx_one ?_); intro w2 hU))
                rw [HRE.out]
                exact post_cell_tmp 2 3 25 rfl w.heap.size _ zlTx _ _ hU.out.at_ Tryd.underlying25 rfl zlTx_info (.int .i64 e) rfl rfl rfl ⟨rfl, hU.out.below HBR.out (Nat.le_refl _)⟩
              | ok p =>
                obtain ⟨n, c2⟩ := p
                have h0 := rdN_ok hN
                have hn : n ≤ 9223372036854775807 := h0.2.2.2
                have HCN := Lib.hid (fun w => rn_value (b[k]'hkb) 0 w hxs (Nat.zero_le _) (n := n) (c := c2) (by rw [List.drop_zero]; exact hN))
                by_cases hcs : c2 = (b[k]'hkb).size
                · have HRK := Lib.hid (hR.out.trans (rdRest_ok hkb h4 (n := n) (by simp [rdNum, hN, hcs])))
                  have HWF := Lib.hid (TX.upd_wf hW.out.1 k n hn)
                  have hci : (c2 : Int) = (b[k]'hkb).size := by omega
                  have hpc := ptr_at hP.out (k := k) (by omega) h4
                  obtain ⟨tv, htv⟩ := num_cell t (k := k) (by omega) h4
                  have htc : wr.cell? ⟨tb, numOff k, none⟩ = some tv := by rw [cell_of_row wr tb (numOff k) _ _ _ hT.out, List.getElem?_toArray]; exact htv
                  have htf : wr.frozen? ⟨tb, numOff k, none⟩ = false := free_of_row hT.out
                  have HT2 : Hid ((wr.setCell ⟨tb, numOff k, none⟩ (.int .i64 n)).heap[tb]? = some (.cells (t.upd k n).cells.toArray 25 (0, 0))) := show _ = _ by
                    rw [heap_setCell_same wr tb (numOff k) _ _ _ hT.out, List.setIfInBounds_toArray, TX.upd_cells t k n (by omega) h4]
                  have HP2 := Lib.hid ((heap_setCell_other wr ⟨tb, numOff k, none⟩ pb (.int .i64 n) hpt).trans hP.out)
                  have HB2 := Lib.hid (Below.setCell hB.out (p := ⟨tb, numOff k, none⟩) htb (.int .i64 n))
                  have HL2 := Lib.hid ((TX.upd_same t k n).2.1.trans hW.out.2)
                  clear hN h0 htv
                  go_wp2_with fail
                  refine (HCN.out _).mono ?_
                  rintro e2 w9 ⟨rfl, hw9⟩
                  subst hw9
                  rw [Nat.zero_add]
                  go_wp2_with fail
                  go_roundw
                  case rel => exact ⟨k + 1, t.upd k n, by omega, by go_num, ⟨HWF.out, HL2.out⟩, HRK.out, HB2.out, HT2.out, HP2.out⟩
                  case measure => simp [intOf]; omega
                · have HRE : Hid (R = .error 6) := show _ = _ from hR.out.trans (rdRest_err hkb h4 (by simp [rdNum, hN, hcs]))
                  have hci : (c2 : Int) ≠ (b[k]'hkb).size := by omega
                  have hzr := (hB.out.block _ (block_lt hz3.out)).trans hz3.out
                  have HBR := Lib.hid (HB3.out.trans (hB.out.mono HB3.out.size))
                  clear hN h0
                  go_wp2_with fail
                  refine (HCN.out _).mono ?_
                  rintro e2 w9 ⟨rfl, hw9⟩
                  subst hw9
                  rw [Nat.zero_add]
                  go_wp2_with (first
                    | (with_reducible refine wpList_build rfl 25 [] rfl [] (.agg zlTx.toArray) rfl (tx_build0 _) ?_)
                    | ((with_reducible refine wpList_store_whole rfl 25 (.tmp 2) (.tmp 114) rfl w.heap.size zlTx zlTx 25 rfl rfl hzr rfl zlTx_info zlTx_one ?_); intro w2 hU))
                  rw [HRE.out]
                  exact post_cell_tmp 2 3 25 rfl w.heap.size _ zlTx _ _ hU.out.at_ Tryd.underlying25 rfl zlTx_info (.int .i64 6) rfl rfl rfl ⟨rfl, hU.out.below HBR.out (Nat.le_refl _)⟩
          · obtain rfl : k = 7 := by omega
            have HRE := Lib.hid (hR.out.trans (rdRest_end hbl.symm))
            have hln : wr.cell? ⟨tb, 5, none⟩ = some (.bool true) := by rw [cell_of_row wr tb 5 _ _ _ hT.out, List.getElem?_toArray, ← hW.out.2]; rfl
            have hcz : wr.cell? ⟨g, 2, none⟩ = some (.string z) := (hB.out.cell (p := ⟨g, 2, none⟩) HG.out).trans HC6.out
            have hzr := (hB.out.block _ (block_lt hz3.out)).trans hz3.out
            have HBR := Lib.hid (HB3.out.trans (hB.out.mono HB3.out.size))
            obtain ⟨cc, W1, hrun, hB1, hsz1, rest, fr, hblk⟩ := conv_bytes Tryd.underlying9 Tryd.underlying79 Tryd.underlying5 wr z
            rw [hz] at hrun
            have hsa := run_arr
            have hzl : z.data.toList.length = 32 := hz
            have HZL := Lib.hid hzl
            clear hzl
            have hTg := (hB1.block _ (block_lt hT.out)).trans hT.out
            have HZR := Lib.hid ((hB1.block _ (block_lt hzr)).trans hzr)
            have HB1 := Lib.hid (bw_call HBR.out hB1)
            have HNE := Lib.hid (Nat.ne_of_lt (Nat.lt_of_lt_of_le (block_lt hz3.out) htb))
            clear hB1 hsz1 hzr
            go_wp2_with (first
              | (with_reducible refine wpList_load_rows rfl 23 (.tmp 129) rfl wr.heap.size 0 (u8s z.data.toList) _ 5 fr _ rfl hblk (hash_pre z rest) Tryd.underlying23 rfl (hash_info HZL.out) ?_)
              | ((with_reducible refine wpList_store_rows rfl 23 (.tmp 131) (.tmp 130) rfl tb 8 (u8s z.data.toList) t.cells 25 rfl rfl hTg (by_fits hW.out.1 hz) (hash_info HZL.out) (u8s_one _) ?_); intro w5 hU5; have hT5 := hU5.out.at_; rw [by_cells hW.out.1 hz] at hT5; have hzr := (hU5.out.other _ HNE.out).trans HZR.out; have HB5 := Lib.hid (hU5.out.below HB1.out (Nat.le_of_lt (Nat.lt_of_lt_of_le (block_lt hz3.out) htb))); clear hTg hblk)
              | (with_reducible refine wpList_load_rows rfl 25 (.tmp 7) rfl tb 0 (setBy t z.data.toList).cells (setBy t z.data.toList).cells 25 (0, 0) _ rfl hT5 id_at Tryd.underlying25 rfl (tx_info (by_wf hW.out.1 hz)) ?_))
            obtain ⟨u, hu⟩ : ∃ u, u = setBy t z.data.toList := ⟨_, rfl⟩
            have HUW : Hid u.wf := show _ from by rw [hu]; exact by_wf hW.out.1 hz
            rw [← hu] at hT5 ⊢
            have HRE2 : Hid (R = rdEnd u) := show _ = _ by rw [HRE.out, if_pos hW.out.2, hu]
            clear hu
            refine (check_any u _ HUW.out).mono ?_
            rintro e2 w9 ⟨rfl, hb9⟩
            have hTg9 := (hb9.block _ (block_lt hT5)).trans hT5
            have hzr9 := (hb9.block _ (block_lt hzr)).trans hzr
            have HB9 := Lib.hid (bw_call HB5.out hb9)
            obtain ⟨kc, hkc⟩ : ∃ kc, kc = u.chk := ⟨_, rfl⟩
            rw [← hkc]
            have HKC := Lib.hid hkc
            clear hb9 hT5 hzr hln hkc hrun
            by_cases hc0 : kc = 0
            · have HRF : Hid (R = .ok u) := show _ = _ by rw [HRE2.out, rdEnd, if_pos (HKC.out.symm.trans hc0)]
              subst hc0
              have hLEN : Hid (u.cells.length = zlTx.length) := show _ = _ from u.cells_length HUW.out.by_ HUW.out.tag
              go_wp2_with (first
                | (with_reducible refine wpList_load_rows rfl 25 (.tmp 7) rfl tb 0 u.cells u.cells 25 (0, 0) _ rfl hTg9 id_at Tryd.underlying25 rfl (tx_info HUW.out) ?_)
                | ((with_reducible refine wpList_store_whole rfl 25 (.tmp 2) (.tmp 138) rfl w.heap.size u.cells zlTx 25 rfl rfl hzr9 hLEN.out (tx_info HUW.out) (start_one u) ?_); intro w2 hU))
              rw [HRF.out]
              exact post_cell_tmp 2 3 25 rfl w.heap.size _ u.cells _ _ hU.out.at_ Tryd.underlying25 rfl (tx_info HUW.out) (.int .i64 0) rfl rfl rfl ⟨rfl, hU.out.below HB9.out (Nat.le_refl _)⟩
            · have HRF : Hid (R = .error kc) := show _ = _ by rw [HRE2.out, rdEnd, if_neg (by rw [← HKC.out]; exact hc0), ← HKC.out]
              have hc1 : (kc != 0) = true := by simpa using hc0
              go_wp2_with (first
                | (with_reducible refine wpList_build rfl 25 [] rfl [] (.agg zlTx.toArray) rfl (tx_build0 _) ?_)
                | ((with_reducible refine wpList_store_whole rfl 25 (.tmp 2) (.tmp 136) rfl w.heap.size zlTx zlTx 25 rfl rfl hzr9 rfl zlTx_info zlTx_one ?_); intro w2 hU))
              rw [HRF.out]
              exact post_cell_tmp 2 3 25 rfl w.heap.size _ zlTx _ _ hU.out.at_ Tryd.underlying25 rfl zlTx_info (.int .i64 kc) rfl rfl rfl ⟨rfl, hU.out.below HB9.out (Nat.le_refl _)⟩
    · have HR : Hid (R = .error 6) := show _ = _ by rw [hR, rdParts, hr2]; simp [hbl]
      clear hR hr2
      go_enter Tryd.func15, Tryd.ntmps15
      go_wp2_with fail
      refine (HC _ hs).mono ?_
      rintro e w1 ⟨hb, v, rfl, ho⟩
      obtain ⟨g, c, rfl, hg, hg2, hc⟩ := own_view ho (by simp)
      have hc0 : w1.cell? ⟨g, 0, none⟩ = some (.string x) := hc 0 (by simp)
      have hc1 : w1.cell? ⟨g, 1, none⟩ = some (.string y) := hc 1 (by simp)
      have hc2 : w1.cell? ⟨g, 2, none⟩ = some (.string z) := hc 2 (by simp)
      have hz1 := (hb.block w.heap.size (by simp)).trans hz0
      have HB := Lib.hid (bw_call (bw_alloc (Below.refl w.heap.size w) _) hb)
      clear hb hz0 ho hc
      go_wp2_with fail
      refine (HC2 _ hx).mono ?_
      rintro e w3 ⟨hb3, v3, rfl, ho3⟩
      obtain ⟨q3, c3, rfl⟩ := own_head ho3
      have hz3 := (hb3.block w.heap.size (block_lt hz1)).trans hz1
      have HB3 := Lib.hid (bw_call HB.out hb3)
      clear hb3 hz1 hc0 hc1 hc2 ho3
      go_wp2_with (first
        | (with_reducible refine wpList_build rfl 25 [] rfl [] (.agg zlTx.toArray) rfl (tx_build0 _) ?_)
        | ((with_reducible refine wpList_store_whole rfl 25 (.tmp 2) (.tmp 68) rfl w.heap.size zlTx zlTx 25 rfl rfl hz3 rfl zlTx_info zlTx_one ?_); intro w2 hU))
      rw [HR.out]
      exact post_cell_tmp 2 3 25 rfl w.heap.size _ zlTx _ _ hU.out.at_ Tryd.underlying25 rfl zlTx_info (.int .i64 6) rfl rfl rfl ⟨rfl, hU.out.below HB3.out (Nat.le_refl _)⟩
theorem read_any (s : ByteArray) (w : World) (hs : s.size ≤ 140737488355328) : Calls Tryd.prog 15 #[.string s] w (rdPost w (rdTx s)) := by
  cases hr : rdAll s with
  | error e => rw [rdTx, hr]; exact read_err1 s w hs hr
  | ok l =>
    match l, hr with
    | [], hr => rw [rdTx, hr]; exact read_len s w hs hr (by simp) (by simp)
    | [x], hr => rw [rdTx, hr]; exact read_len s w hs hr (by simp) (by simp)
    | [x, y], hr =>
      by_cases hy : y.size = 32
      · rw [show rdTx s = rdParts x y none by simp [rdTx, hr, hy]]
        exact read_in2 s w hs hr hy
      · rw [show rdTx s = .error 6 by simp [rdTx, hr, hy]]
        exact read_tag2 s w hs hr hy
    | [x, y, z], hr =>
      by_cases hy : y.size = 32 ∧ z.size = 32
      · rw [show rdTx s = rdParts x y (some z) by simp [rdTx, hr, hy]]
        exact read_in3 s w hs hr hy.1 hy.2
      · rw [show rdTx s = .error 6 by simp only [rdTx, hr]; exact if_neg hy]
        exact read_tag3 s w hs hr hy
    | _ :: _ :: _ :: _ :: l, hr => rw [rdTx, hr]; exact read_len s w hs hr (by simp) (by simp)
end Go.Proofs.YtckfdmkjeocadaaDoor
