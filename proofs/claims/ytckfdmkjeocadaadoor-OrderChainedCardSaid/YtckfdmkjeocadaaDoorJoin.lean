/- octets.join: what the call does. -/
import Derived.Test.YtckfdmkjeocadaaDoorProg
import Derived.Test.YtckfdmkjeocadaaDoorStrs
namespace Go.Proofs.YtckfdmkjeocadaaDoor
open Go.RowKit
def zeros (n : Nat) : List UInt8 := List.replicate n 0
theorem made_zeros (n : Nat) : (madeCells (Value.int .u8 0).cells (n * 1)).toList = u8s (zeros n) := by
  unfold madeCells zeros u8s
  simp only [Value.cells, Array.toList_map, Array.toList_range, Nat.mul_one]
  rw [List.map_replicate]
  apply List.ext_getElem (by simp)
  intro i h1 h2
  simp [Nat.mod_one]
theorem made_info : Tryd.prog.info? 5 = some { ((Tryd.prog.info? 5).getD default) with zero := some (.int .u8 0), size := 1, bytes := 1 } := by kernel_rfl
theorem join_cell {w wr : World} {b off k : Nat} {v : Value} (hb : Below w.heap.size w wr) (h0 : b < w.heap.size) (h : w.cell? ⟨b, off + k, none⟩ = some v) : wr.cell? ⟨b, off + k, none⟩ = some v := by
  rw [hb.cell (p := ⟨b, off + k, none⟩) h0]; exact h
theorem join_row {ls : List ByteArray} {k N T : Nat} (hk : k < ls.length) (hN : N = tot ls) (hT : T = tot (ls.take k)) :
    splice (u8s (flat (ls.take k) ++ zeros (N - tot (ls.take k)))) T (u8s (ls[k]'hk).data.toList) = u8s (flat (ls.take (k + 1)) ++ zeros (N - tot (ls.take (k + 1)))) := by
  subst hT
  have h1 := flat_length (ls.take k)
  have h2 := tot_snoc ls k hk
  have h3 := tot_le ls (k + 1)
  have h4 : (u8s (ls[k]'hk).data.toList).length = (ls[k]'hk).size := by rw [u8s_length]; rfl
  unfold splice
  rw [h4, flat_snoc ls k hk, u8s_append, List.take_left' (by rw [u8s_length, h1]), u8s_append, u8s_append, List.append_assoc]
  congr 2
  rw [List.drop_append, List.drop_of_length_le (by rw [u8s_length, h1]; omega), List.nil_append, u8s_length, h1]
  unfold u8s zeros
  rw [← List.map_drop, List.drop_replicate]
  congr 2
  omega
theorem join_start {w1 : World} {base g N : Nat} (h : w1.ownsRow base 5 1 (.slice (some ⟨g, 0, none⟩) N N) N (madeCells (Value.int .u8 0).cells (N * 1)).toList) :
    w1.heap[g]? = some (.cells (u8s (zeros N)).toArray 5 (0, 0)) := by
  rw [made_zeros] at h
  rcases h.2 with ⟨h2, _⟩ | ⟨g', cap, cur, hv, _, hg, _, _, hs, ht⟩
  · cases h2
  · cases hv
    rw [hg, ← ht, List.take_of_length_le (by rw [Array.length_toList, hs]; exact Nat.le_refl _)]
theorem join_conv {wr : World} {ls : List ByteArray} {g N : Nat} (h : wr.heap[g]? = some (.cells (u8s (flat (ls.take ls.length) ++ zeros (N - tot (ls.take ls.length)))).toArray 5 (0, 0))) (hN : N = tot ls) :
    (convert 79 9 (.slice (some ⟨g, 0, none⟩) N N)).run Tryd.prog wr = .ok (.string (bstr (flat ls))) wr := by
  rw [List.take_length, hN, Nat.sub_self] at h
  refine conv_row _ Tryd.underlying79 Tryd.underlying5 Tryd.underlying9 (by rw [flat_length, hN]) fun i hi => ?_
  rw [cell_of_row wr g (0 + i) _ _ _ h, Nat.zero_add]
  simp [zeros]
set_option maxHeartbeats 1000000 in
set_option maxRecDepth 4000 in
theorem join_any (v : Value) (ls : List ByteArray) (w : World) (hv : RdStrs w v ls) (ht : tot ls ≤ 140737488355328) :
    Calls Tryd.prog 88 #[v] w fun e w' => e = .returned (.string (bstr (flat ls))) ∧ Below w.heap.size w w' := by
  obtain ⟨A, c, rfl, hl, b, off, hb0, hr⟩ := hv
  have hl2 : ls.length ≤ 9223372036854775807 := by omega
  have HR := Lib.hid hr
  clear hr
  go_enter Tryd.func88, Tryd.ntmps88
  go_wp2
  go_loop [3, 12] (fun n i => ∃ k : Nat, k ≤ ls.length ∧ i = .int .i64 k ∧ n = .int .i64 (tot (ls.take k))) (fun _ i => ls.length - (intOf i).toNat)
  case atStart => exact ⟨0, by omega, rfl, rfl⟩
  case round =>
    obtain ⟨k, hk, rfl, rfl⟩ := hrel
    by_cases hlt : k < ls.length
    · obtain ⟨rfl, hc⟩ := HR.out k hlt
      have hs := tot_snoc ls k hlt
      have hs2 := tot_le ls (k + 1)
      have hs3 : tot (List.take k ls) + (ls[k]).size ≤ 9223372036854775807 := by omega
      have HS := Lib.hid hs
      clear hs hs2
      go_wp2
      go_round
      case rel => exact ⟨k + 1, by omega, by go_num, by rw [HS.out]; go_num⟩
      case measure => simp [intOf]; omega
    · obtain rfl : k = ls.length := by omega
      obtain ⟨N, hN⟩ : ∃ N, N = tot ls := ⟨_, rfl⟩
      have hN2 : N ≤ 140737488355328 := by omega
      have hN3 : tot (List.take ls.length ls) = N := by rw [List.take_length]; exact hN.symm
      rw [hN3]
      have HN := Lib.hid hN
      clear hN hN3 ht
      go_wp2_with (refine wpList_make_full _ rfl _ _ 79 rfl w.heap.size 5 _ (.int .u8 0) 1 Tryd.underlying79 made_info rfl rfl .i64 .i64 N N N rfl rfl rfl rfl (by simp; omega) (by unfold maxLen; omega) (Nat.le_refl _) ?_; intro w1 hown hg1)
      have hB := Lib.hid ((Below.refl w.heap.size w).grown hg1 (Nat.le_refl _) (fun k h => by cases h))
      have hrow := Lib.hid (join_start hown)
      clear hown hg1
      go_loopw [7, 25] (fun at_ i wr => ∃ k T : Nat, k ≤ ls.length ∧ T ≤ N ∧ Hid (T = tot (ls.take k)) ∧ i = .int .i64 k ∧ at_ = .int .i64 T ∧ Hid (Below w.heap.size w wr) ∧ Hid (wr.heap[w.heap.size]? = some (.cells (u8s (flat (ls.take k) ++ zeros (N - tot (ls.take k)))).toArray 5 (0, 0)))) (fun _ i _ => ls.length - (intOf i).toNat)
      case atStart => exact ⟨0, 0, by omega, by omega, rfl, rfl, rfl, hB.out, show _ = _ by simpa [flat, tot] using hrow.out⟩
      case round =>
        clear hB hrow
        obtain ⟨k, T, hk, hT, hTk, rfl, rfl, hB, hrow⟩ := hrel
        by_cases hlt : k < ls.length
        · obtain ⟨rfl, hc0⟩ := HR.out k hlt
          have hc := join_cell hB.out hb0 hc0
          clear hc0
          have hs := tot_snoc ls k hlt
          have hs2 := tot_le ls (k + 1)
          have hs4 : T + (ls[k]).size ≤ N := by rw [hTk.out, HN.out]; omega
          have hTn : (T : Int) ≤ N := by omega
          have HS := Lib.hid hs
          clear hs hs2
          have hinf : (Tryd.prog.info? 5).map (·.size) = some 1 := by kernel_rfl
          by_cases hz : N = T
          · obtain rfl : N = T := hz
            have hs0 : (ls[k]).size ≤ 0 := by omega
            have hs3 : N + (ls[k]).size ≤ (u8s (flat (ls.take k) ++ zeros (N - tot (ls.take k)))).length := by
              rw [u8s_length, List.length_append, flat_length, ← hTk.out]; unfold zeros; rw [List.length_replicate]; omega
            go_wp2_with ((with_reducible refine wpList_copy_str rfl (.tmp 32) (.tmp 33) 79 9 rfl 5 Tryd.underlying79 hinf _ _ _ (ls[k]) rfl rfl w.heap.size N _ 5 hrow.out hs0 (fun h => absurd h (by omega)) hs3 w.heap.size w hB.out (Nat.le_refl _) ?_); intro w2 hrow2 hB2; have hB2' := Lib.hid hB2; clear hB2)
            go_roundw
            case rel => exact ⟨k + 1, N + (ls[k]).size, by omega, by omega, show _ = _ by rw [HS.out, ← hTk.out], by go_num, by go_num, hB2'.out, show _ = _ by rw [← join_row hlt HN.out hTk.out]; exact hrow2.out⟩
            case measure => simp [intOf]; omega
          · have hs0 : (ls[k]).size ≤ N - T := by omega
            have hs3 : T + (ls[k]).size ≤ (u8s (flat (ls.take k) ++ zeros (N - tot (ls.take k)))).length := by
              rw [u8s_length, List.length_append, flat_length, ← hTk.out]; unfold zeros; rw [List.length_replicate]; omega
            go_wp2_with ((with_reducible refine wpList_copy_str rfl (.tmp 32) (.tmp 33) 79 9 rfl 5 Tryd.underlying79 hinf _ _ _ (ls[k]) rfl rfl w.heap.size T _ 5 hrow.out hs0 (fun _ => rfl) hs3 w.heap.size w hB.out (Nat.le_refl _) ?_); intro w2 hrow2 hB2; have hB2' := Lib.hid hB2; clear hB2)
            go_roundw
            case rel => exact ⟨k + 1, T + (ls[k]).size, by omega, by omega, show _ = _ by rw [HS.out, ← hTk.out], by go_num, by go_num, hB2'.out, show _ = _ by rw [← join_row hlt HN.out hTk.out]; exact hrow2.out⟩
            case measure => simp [intOf]; omega
        · obtain rfl : k = ls.length := by omega
          have hcv := join_conv hrow.out HN.out
          go_wp2
          go_ret
          exact ⟨rfl, hB.out⟩
end Go.Proofs.YtckfdmkjeocadaaDoor
