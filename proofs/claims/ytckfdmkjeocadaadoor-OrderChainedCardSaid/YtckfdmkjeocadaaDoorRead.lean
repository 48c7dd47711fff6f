/- tx.Read: what the call does. -/
import Derived.Test.YtckfdmkjeocadaaDoorReadPure
namespace Go.Proofs.YtckfdmkjeocadaaDoor
open Go.RowKit
set_option maxHeartbeats 1000000
set_option maxRecDepth 4000
def rdPost (w : World) (r : Except Int TX) (e : Ending) (w' : World) : Prop :=
  e = .returned (.tuple #[.agg (txOf r).cells.toArray, .int .i64 (errOf r)]) ∧ Below w.heap.size w w'
theorem tx_zero (w : World) : (zeroValue 25).run Tryd.prog w = .ok (.agg zlTx.toArray) w := by kernel_rfl
theorem tx_build0 (w : World) : (Instr.build 25 #[]).run Tryd.prog w = .ok (.agg zlTx.toArray) w :=
  run_build_struct (parts := #[]) (places := #[(0, 1), (1, 1), (2, 1), (3, 1), (4, 1), (5, 1), (6, 1), (7, 1), (8, 32), (40, 32)]) w (tx_zero w) Tryd.underlying25 (by kernel_rfl) rfl
theorem zlTx_info : (Tryd.prog.info? 25).map (·.size) = some zlTx.length := by kernel_rfl
theorem zlTx_one : ∀ v ∈ zlTx, v.oneCell' = true := by decide
theorem read_err1 (s : ByteArray) (w : World) (hs : s.size ≤ 140737488355328) {x : Int} (hr : rdAll s = .error x) : Calls Tryd.prog 15 #[.string s] w (rdPost w (.error x)) := by
  have HC := tlist_any s
  rw [hr] at HC
  have hx0 := rdAll_err hr
  clear hr
  have hz0 : (w.alloc (.cells zlTx.toArray 25)).heap[w.heap.size]? = some (.cells zlTx.toArray 25 (0, 0)) := heap_alloc_new _ _
  go_enter Tryd.func15, Tryd.ntmps15
  go_wp2_with fail
  refine (HC _ hs).mono ?_
  rintro e w1 ⟨hb, v, rfl⟩
  have hz1 := (hb.block w.heap.size (by simp)).trans hz0
  have HB := Lib.hid (bw_call (bw_alloc (Below.refl w.heap.size w) _) hb)
  clear hb hz0
  go_wp2_with (first
    | (with_reducible refine wpList_build rfl 25 [] rfl [] (.agg zlTx.toArray) rfl (tx_build0 _) ?_)
    | ((with_reducible refine wpList_store_whole rfl 25 (.tmp 2) (.tmp 22) rfl w.heap.size zlTx zlTx 25 rfl rfl hz1 rfl zlTx_info zlTx_one ?_); intro w2 hU))
  exact post_cell_tmp 2 3 25 rfl w.heap.size _ zlTx _ _ hU.out.at_ Tryd.underlying25 rfl zlTx_info (.int .i64 x) rfl rfl rfl ⟨rfl, hU.out.below HB.out (Nat.le_refl _)⟩
theorem own_view {w : World} {base : Nat} {v : Value} {ls : List ByteArray} (h : w.ownsRow base 9 1 v ls.length (strs ls)) (h0 : 0 < ls.length) :
    ∃ g c, v = .slice (some ⟨g, 0, none⟩) ls.length c ∧ base ≤ g ∧ g < w.heap.size ∧ ∀ k (h : k < ls.length), w.cell? ⟨g, k, none⟩ = some (.string (ls[k]'h)) := by
  rcases h.2 with ⟨_, h1⟩ | ⟨g, cap, cur, rfl, hg, hh, _, _, _, ht⟩
  · omega
  · refine ⟨g, cap, rfl, hg, block_lt hh, fun k hk => ?_⟩
    rw [cell_of_row w g k cur _ (0, 0) hh]
    have : (List.take (ls.length * 1) cur.toList)[k]? = (strs ls)[k]? := by rw [ht]
    rw [List.getElem?_take_of_lt (by omega)] at this
    rw [← Array.getElem?_toList, this]
    simp [strs, List.getElem?_eq_getElem hk]
theorem own_head {w : World} {base n : Nat} {e : TypeId} {v : Value} {xs : List Value} (h : w.ownsRow base e 1 v n xs) : ∃ q c, v = .slice q n c := by
  rcases h.2 with ⟨rfl, rfl⟩ | ⟨g, cap, cur, rfl, _⟩
  · exact ⟨_, _, rfl⟩
  · exact ⟨_, _, rfl⟩
/-- a list of another length -/
theorem read_len (s : ByteArray) (w : World) (hs : s.size ≤ 140737488355328) {l : List ByteArray} (hr : rdAll s = .ok l) (h2 : l.length ≠ 2) (h3 : l.length ≠ 3) : Calls Tryd.prog 15 #[.string s] w (rdPost w (.error 6)) := by
  have HC := tlist_any s
  rw [hr] at HC
  clear hr
  have hz0 : (w.alloc (.cells zlTx.toArray 25)).heap[w.heap.size]? = some (.cells zlTx.toArray 25 (0, 0)) := heap_alloc_new _ _
  go_enter Tryd.func15, Tryd.ntmps15
  go_wp2_with fail
  refine (HC _ hs).mono ?_
  rintro e w1 ⟨hb, v, rfl, ho⟩
  obtain ⟨q, c, rfl⟩ := own_head ho
  have hz1 := (hb.block w.heap.size (by simp)).trans hz0
  have HB := Lib.hid (bw_call (bw_alloc (Below.refl w.heap.size w) _) hb)
  clear hb hz0 ho
  go_wp2_with (first
    | (with_reducible refine wpList_build rfl 25 [] rfl [] (.agg zlTx.toArray) rfl (tx_build0 _) ?_)
    | ((with_reducible refine wpList_store_whole rfl 25 (.tmp 2) (.tmp 49) rfl w.heap.size zlTx zlTx 25 rfl rfl hz1 rfl zlTx_info zlTx_one ?_); intro w2 hU))
  exact post_cell_tmp 2 3 25 rfl w.heap.size _ zlTx _ _ hU.out.at_ Tryd.underlying25 rfl zlTx_info (.int .i64 6) rfl rfl rfl ⟨rfl, hU.out.below HB.out (Nat.le_refl _)⟩
/-- two, the second not of 32 bytes -/
theorem read_tag2 (s : ByteArray) (w : World) (hs : s.size ≤ 140737488355328) {x y : ByteArray} (hr : rdAll s = .ok [x, y]) (hy : y.size ≠ 32) : Calls Tryd.prog 15 #[.string s] w (rdPost w (.error 6)) := by
  have HC := tlist_any s
  rw [hr] at HC
  clear hr
  have hz0 : (w.alloc (.cells zlTx.toArray 25)).heap[w.heap.size]? = some (.cells zlTx.toArray 25 (0, 0)) := heap_alloc_new _ _
  go_enter Tryd.func15, Tryd.ntmps15
  go_wp2_with fail
  refine (HC _ hs).mono ?_
  rintro e w1 ⟨hb, v, rfl, ho⟩
  obtain ⟨g, c, rfl, hg, hg2, hc⟩ := own_view ho (by simp)
  have hc1 : w1.cell? ⟨g, 1, none⟩ = some (.string y) := hc 1 (by simp)
  have hz1 := (hb.block w.heap.size (by simp)).trans hz0
  have HB := Lib.hid (bw_call (bw_alloc (Below.refl w.heap.size w) _) hb)
  clear hb hz0 ho hc
  go_wp2_with (first
    | (with_reducible refine wpList_build rfl 25 [] rfl [] (.agg zlTx.toArray) rfl (tx_build0 _) ?_)
    | ((with_reducible refine wpList_store_whole rfl 25 (.tmp 2) (.tmp 49) rfl w.heap.size zlTx zlTx 25 rfl rfl hz1 rfl zlTx_info zlTx_one ?_); intro w2 hU))
  exact post_cell_tmp 2 3 25 rfl w.heap.size _ zlTx _ _ hU.out.at_ Tryd.underlying25 rfl zlTx_info (.int .i64 6) rfl rfl rfl ⟨rfl, hU.out.below HB.out (Nat.le_refl _)⟩
/-- three, the second or the third not of 32 bytes -/
theorem read_tag3 (s : ByteArray) (w : World) (hs : s.size ≤ 140737488355328) {x y z : ByteArray} (hr : rdAll s = .ok [x, y, z]) (hy : ¬(y.size = 32 ∧ z.size = 32)) : Calls Tryd.prog 15 #[.string s] w (rdPost w (.error 6)) := by
  have HC := tlist_any s
  rw [hr] at HC
  clear hr
  have hz0 : (w.alloc (.cells zlTx.toArray 25)).heap[w.heap.size]? = some (.cells zlTx.toArray 25 (0, 0)) := heap_alloc_new _ _
  by_cases hy2 : y.size = 32
  · have hz32 : z.size ≠ 32 := fun h => hy ⟨hy2, h⟩
    clear hy
    go_enter Tryd.func15, Tryd.ntmps15
    go_wp2_with fail
    refine (HC _ hs).mono ?_
    rintro e w1 ⟨hb, v, rfl, ho⟩
    obtain ⟨g, c, rfl, hg, hg2, hc⟩ := own_view ho (by simp)
    have hc1 : w1.cell? ⟨g, 1, none⟩ = some (.string y) := hc 1 (by simp)
    have hc2 : w1.cell? ⟨g, 2, none⟩ = some (.string z) := hc 2 (by simp)
    have hz1 := (hb.block w.heap.size (by simp)).trans hz0
    have HB := Lib.hid (bw_call (bw_alloc (Below.refl w.heap.size w) _) hb)
    clear hb hz0 ho hc
    go_wp2_with (first
      | (with_reducible refine wpList_build rfl 25 [] rfl [] (.agg zlTx.toArray) rfl (tx_build0 _) ?_)
      | ((with_reducible refine wpList_store_whole rfl 25 (.tmp 2) (.tmp 49) rfl w.heap.size zlTx zlTx 25 rfl rfl hz1 rfl zlTx_info zlTx_one ?_); intro w2 hU))
    exact post_cell_tmp 2 3 25 rfl w.heap.size _ zlTx _ _ hU.out.at_ Tryd.underlying25 rfl zlTx_info (.int .i64 6) rfl rfl rfl ⟨rfl, hU.out.below HB.out (Nat.le_refl _)⟩
  · clear hy
    go_enter Tryd.func15, Tryd.ntmps15
    go_wp2_with fail
    refine (HC _ hs).mono ?_
    rintro e w1 ⟨hb, v, rfl, ho⟩
    obtain ⟨g, c, rfl, hg, hg2, hc⟩ := own_view ho (by simp)
    have hc1 : w1.cell? ⟨g, 1, none⟩ = some (.string y) := hc 1 (by simp)
    have hz1 := (hb.block w.heap.size (by simp)).trans hz0
    have HB := Lib.hid (bw_call (bw_alloc (Below.refl w.heap.size w) _) hb)
    clear hb hz0 ho hc
    go_wp2_with (first
      | (with_reducible refine wpList_build rfl 25 [] rfl [] (.agg zlTx.toArray) rfl (tx_build0 _) ?_)
      | ((with_reducible refine wpList_store_whole rfl 25 (.tmp 2) (.tmp 49) rfl w.heap.size zlTx zlTx 25 rfl rfl hz1 rfl zlTx_info zlTx_one ?_); intro w2 hU))
    exact post_cell_tmp 2 3 25 rfl w.heap.size _ zlTx _ _ hU.out.at_ Tryd.underlying25 rfl zlTx_info (.int .i64 6) rfl rfl rfl ⟨rfl, hU.out.below HB.out (Nat.le_refl _)⟩
end Go.Proofs.YtckfdmkjeocadaaDoor
