/- What is read of a cavalcadelaw17.Act: plain openings. -/
import Derived.Test.YtckfdmkjeocadaaDoorAdmitNone
import Derived.Test.YtckfdmkjeocadaaDoorTxRow
namespace Go.Proofs.YtckfdmkjeocadaaDoor
open Go.ChangeShapes Go.WideShapes Go.RowKit
set_option maxRecDepth 4000
section
variable {H : Type} {enc : TypeId × Value → H} {w : World} {base : Nat} {sp : Nat → Bool} {held : Bool}
theorem act_of_trod {fuel : Nat} {cs : List Value} {y : DataW H × List MemPlace} (h : DataW.trod enc Tryd.prog w base sp held fuel 49 cs = some y) :
    ∃ (kd : Int) (s : ByteArray) (t : TX), cs = actC kd s t ∧ y.2 = [] ∧ (∃ ds dd, y.1 = .agg ds ∧ ds[2]? = some (.agg dd) ∧ dd[4]? = some (.lit (.string t.data.data.toList))) ∧ (t.data.size ≤ 140737488351232 → t.wf) := by
  cases fuel with
  | zero => simp [DataW.trod] at h
  | succ fuel =>
    have hc1 : Tryd.prog.cellsOf 3 = 1 := by kernel_rfl
    have hc2 : Tryd.prog.cellsOf 9 = 1 := by kernel_rfl
    have hc3 : Tryd.prog.cellsOf 25 = 72 := by kernel_rfl
    have hc4 : Tryd.prog.cellsOf 49 = 74 := by kernel_rfl
    simp only [DataW.trod, Tryd.underlying49, hc4] at h
    split at h
    · rename_i hl
      rw [Option.map_eq_some_iff] at h
      obtain ⟨xs, hx, rfl⟩ := h
      have hlen := mapM_some_length hx
      have hlx : xs.length = 3 := by simp at hlen; exact hlen
      have e0 := mapM_some_get hx 0 _ rfl
      simp only [hc1] at e0
      rw [take_at (by omega)] at e0
      rw [List.getElem?_eq_getElem (by omega)] at e0
      obtain ⟨n0, c0, y0, w0⟩ := int_of_trod Tryd.underlying3 e0
      have e1 := mapM_some_get hx 1 _ rfl
      simp only [hc2] at e1
      rw [take_at (by omega)] at e1
      rw [List.getElem?_eq_getElem (by omega)] at e1
      obtain ⟨s1, c1, y1⟩ := str_of_trod e1
      have e2 := mapM_some_get hx 2 _ rfl
      simp only [hc3] at e2
      rw [List.getElem?_eq_getElem (by omega)] at e2
      obtain ⟨t, c2, y2, ⟨dd, z1, z2⟩, hwf⟩ := tx_of_trod e2
      refine ⟨n0, s1, t, ?_, ?_, ⟨_, dd, rfl, ?_, z2⟩, hwf⟩
      · have hs : cs = cs[0]'(by omega) :: cs[1]'(by omega) :: (cs.drop 2).take 72 := by
          match cs, hl with
          | a :: b :: r, hl =>
            have hr : r.length = 72 := by simpa using hl
            simp [List.take_of_length_le (show r.length ≤ 72 by omega)]
        rw [actC, ← c0, ← c1, ← c2]
        exact hs
      · show List.flatMap _ xs = []
        rw [List.flatMap_eq_nil_iff]
        intro q hq
        obtain ⟨i, hi, rfl⟩ := List.getElem_of_mem hq
        have hi2 : i < 3 := by omega
        match i, hi2 with
        | 0, _ => rw [y0]
        | 1, _ => rw [y1]
        | 2, _ => exact y2
      · rw [List.getElem?_map, List.getElem?_eq_getElem (by omega)]
        exact congrArg some z1
    · cases h
end
theorem act_sized {H : Type} {ts : List TypeId} {ds ad dd : List (DataW H)} {s : ByteArray} (hsz : ∀ n ∈ DataW.weightsEach Tryd.prog ts ds, decide (n ≤ reachBytes) = true) {j : Nat} (ht : ts[j]? = some 49) (hd : ds[j]? = some (.agg ad))
    (h2 : ad[2]? = some (.agg dd)) (h4 : dd[4]? = some (.lit (.string s.data.toList))) : s.size ≤ 140737488351232 := by
  have hm : s.data.toList.length ∈ (DataW.agg ad).weights Tryd.prog 49 := by
    rw [DataW.weights, Tryd.underlying49]
    exact DataW.weights_mem_each (j := 2) (t := 25) rfl h2 _ (tx_weights h4)
  have h := hsz _ (DataW.weights_mem_each ht hd _ hm)
  have h3 := of_decide_eq_true h
  rw [Array.length_toList] at h3
  exact h3
end Go.Proofs.YtckfdmkjeocadaaDoor
