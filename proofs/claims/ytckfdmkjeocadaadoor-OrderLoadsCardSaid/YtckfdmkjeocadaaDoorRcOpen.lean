/- What is read of an api.Receipt, of a cavalcadelaw19.Act: plain openings. -/
import Derived.Test.YtckfdmkjeocadaaDoorOrderNone
import Derived.Test.YtckfdmkjeocadaaDoorLaid
namespace Go.Proofs.YtckfdmkjeocadaaDoor
open Go.ChangeShapes Go.WideShapes Go.RowKit
set_option maxRecDepth 4000
section
variable {H : Type} {enc : TypeId × Value → H} {w : World} {base : Nat} {sp : Nat → Bool} {held : Bool}
theorem split68 : ∀ {cs : List Value} (hl : cs.length = 68), cs = [cs[0]'(by omega), cs[1]'(by omega), cs[2]'(by omega), cs[3]'(by omega)] ++ ((cs.drop 4).take 32 ++ (cs.drop 36).take 32)
  | a0 :: a1 :: a2 :: a3 :: r, hl => by
    have hr : r.length = 64 := by simpa using hl
    simp only [List.getElem_cons_zero, List.getElem_cons_succ, List.drop_succ_cons, List.drop_zero, List.cons_append, List.nil_append]
    rw [List.take_of_length_le (l := List.drop 32 r) (by rw [List.length_drop]; omega), List.take_append_drop]
  | [], hl => by simp at hl
  | [_], hl => by simp at hl
  | [_, _], hl => by simp at hl
  | [_, _, _], hl => by simp at hl
theorem rc_of_trod {fuel : Nat} {cs : List Value} {y : DataW H × List MemPlace} (h : DataW.trod enc Tryd.prog w base sp held fuel 61 cs = some y) :
    ∃ t : RC, cs = t.cells ∧ y.2 = [] ∧ (∃ ds, y.1 = .agg ds ∧ ds[3]? = some (.lit (.string t.body.data.toList))) ∧ (t.body.size ≤ 140737488351232 → t.wf) := by
  cases fuel with
  | zero => simp [DataW.trod] at h
  | succ fuel =>
    have hci : Tryd.prog.cellsOf 3 = 1 := by kernel_rfl
    have hcs : Tryd.prog.cellsOf 9 = 1 := by kernel_rfl
    have hch : Tryd.prog.cellsOf 23 = 32 := by kernel_rfl
    have hct : Tryd.prog.cellsOf 61 = 68 := by kernel_rfl
    simp only [DataW.trod, Tryd.underlying61, hct] at h
    split at h
    · rename_i hl
      rw [Option.map_eq_some_iff] at h
      obtain ⟨xs, hx, rfl⟩ := h
      have hlen := mapM_some_length hx
      have hlx : xs.length = 6 := by simp at hlen; exact hlen
      have e0 := mapM_some_get hx 0 _ rfl
      simp only [hci] at e0
      rw [take_at (by omega)] at e0
      rw [List.getElem?_eq_getElem (by omega)] at e0
      obtain ⟨n0, c0, y0, w0⟩ := int_of_trod Tryd.underlying3 e0
      have e1 := mapM_some_get hx 1 _ rfl
      simp only [hci] at e1
      rw [take_at (by omega)] at e1
      rw [List.getElem?_eq_getElem (by omega)] at e1
      obtain ⟨n1, c1, y1, w1⟩ := int_of_trod Tryd.underlying3 e1
      have e2 := mapM_some_get hx 2 _ rfl
      simp only [hci] at e2
      rw [take_at (by omega)] at e2
      rw [List.getElem?_eq_getElem (by omega)] at e2
      obtain ⟨n2, c2, y2, w2⟩ := int_of_trod Tryd.underlying3 e2
      have e3 := mapM_some_get hx 3 _ rfl
      simp only [hcs] at e3
      rw [take_at (by omega)] at e3
      rw [List.getElem?_eq_getElem (by omega)] at e3
      obtain ⟨n3, c3, y3⟩ := str_of_trod e3
      have e4 := mapM_some_get hx 4 _ rfl
      simp only [hch] at e4
      rw [List.getElem?_eq_getElem (by omega)] at e4
      obtain ⟨n4, m4, c4, y4⟩ := hash_of_trod e4
      have e5 := mapM_some_get hx 5 _ rfl
      simp only [hch] at e5
      rw [List.getElem?_eq_getElem (by omega)] at e5
      obtain ⟨n5, m5, c5, y5⟩ := hash_of_trod e5
      refine ⟨⟨n0, n1, n2, n3, n4, n5⟩, ?_, ?_, ⟨_, rfl, ?_⟩, fun hd => ⟨i64_of_wf w0, i64_of_wf w1, i64_of_wf w2, hd, m4, m5⟩⟩
      · simp only [RC.cells, ← c0, ← c1, ← c2, ← c3, ← c4, ← c5]
        exact split68 hl
      · show List.flatMap _ xs = []
        rw [List.flatMap_eq_nil_iff]
        intro q hq
        obtain ⟨i, hi, rfl⟩ := List.getElem_of_mem hq
        have hi2 : i < 6 := by omega
        match i, hi2 with
        | 0, _ => rw [y0]
        | 1, _ => rw [y1]
        | 2, _ => rw [y2]
        | 3, _ => rw [y3]
        | 4, _ => exact y4
        | 5, _ => exact y5
      · rw [List.getElem?_map, List.getElem?_eq_getElem (by omega)]
        exact congrArg (fun q : DataW H × List MemPlace => some q.1) y3
    · cases h
theorem act19_of_trod {fuel : Nat} {cs : List Value} {y : DataW H × List MemPlace} (h : DataW.trod enc Tryd.prog w base sp held fuel 71 cs = some y) :
    ∃ (kd lt : Int) (s : ByteArray) (ld : Bool) (t : RC), cs = actQ kd lt s ld t ∧ y.2 = [] ∧ (∃ ds dd, y.1 = .agg ds ∧ ds[2]? = some (.lit (.string s.data.toList)) ∧ ds[4]? = some (.agg dd) ∧ dd[3]? = some (.lit (.string t.body.data.toList))) ∧ i64ok kd ∧ i64ok lt ∧ (t.body.size ≤ 140737488351232 → t.wf) := by
  cases fuel with
  | zero => simp [DataW.trod] at h
  | succ fuel =>
    have hci : Tryd.prog.cellsOf 3 = 1 := by kernel_rfl
    have hcs : Tryd.prog.cellsOf 9 = 1 := by kernel_rfl
    have hcb : Tryd.prog.cellsOf 4 = 1 := by kernel_rfl
    have hcr : Tryd.prog.cellsOf 61 = 68 := by kernel_rfl
    have hct : Tryd.prog.cellsOf 71 = 72 := by kernel_rfl
    simp only [DataW.trod, Tryd.underlying71, hct] at h
    split at h
    · rename_i hl
      rw [Option.map_eq_some_iff] at h
      obtain ⟨xs, hx, rfl⟩ := h
      have hlen := mapM_some_length hx
      have hlx : xs.length = 5 := by simp at hlen; exact hlen
      have e0 := mapM_some_get hx 0 _ rfl
      simp only [hci] at e0
      rw [take_at (by omega)] at e0
      rw [List.getElem?_eq_getElem (by omega)] at e0
      obtain ⟨n0, c0, y0, w0⟩ := int_of_trod Tryd.underlying3 e0
      have e1 := mapM_some_get hx 1 _ rfl
      simp only [hci] at e1
      rw [take_at (by omega)] at e1
      rw [List.getElem?_eq_getElem (by omega)] at e1
      obtain ⟨n1, c1, y1, w1⟩ := int_of_trod Tryd.underlying3 e1
      have e2 := mapM_some_get hx 2 _ rfl
      simp only [hcs] at e2
      rw [take_at (by omega)] at e2
      rw [List.getElem?_eq_getElem (by omega)] at e2
      obtain ⟨n2, c2, y2⟩ := str_of_trod e2
      have e3 := mapM_some_get hx 3 _ rfl
      simp only [hcb] at e3
      rw [take_at (by omega)] at e3
      rw [List.getElem?_eq_getElem (by omega)] at e3
      obtain ⟨n3, c3, y3⟩ := bool_of_trod e3
      have e4 := mapM_some_get hx 4 _ rfl
      simp only [hcr] at e4
      rw [List.getElem?_eq_getElem (by omega)] at e4
      obtain ⟨n4, c4, y4, ⟨dd, z1, z2⟩, hwf⟩ := rc_of_trod e4
      refine ⟨n0, n1, n2, n3, n4, ?_, ?_, ⟨_, dd, rfl, ?_, ?_, z2⟩, i64_of_wf w0, i64_of_wf w1, hwf⟩
      · have hs : cs = cs[0]'(by omega) :: cs[1]'(by omega) :: cs[2]'(by omega) :: cs[3]'(by omega) :: (cs.drop 4).take 68 := by
          match cs, hl with
          | a :: b :: c :: d :: r, hl =>
            have hr : r.length = 68 := by simpa using hl
            simp [List.take_of_length_le (show r.length ≤ 68 by omega)]
        rw [actQ, ← c0, ← c1, ← c2, ← c3, ← c4]
        exact hs
      · show List.flatMap _ xs = []
        rw [List.flatMap_eq_nil_iff]
        intro q hq
        obtain ⟨i, hi, rfl⟩ := List.getElem_of_mem hq
        have hi2 : i < 5 := by omega
        match i, hi2 with
        | 0, _ => rw [y0]
        | 1, _ => rw [y1]
        | 2, _ => rw [y2]
        | 3, _ => rw [y3]
        | 4, _ => exact y4
      · rw [List.getElem?_map, List.getElem?_eq_getElem (by omega)]
        exact congrArg (fun q : DataW H × List MemPlace => some q.1) y2
      · rw [List.getElem?_map, List.getElem?_eq_getElem (by omega)]
        exact congrArg some z1
    · cases h
end
theorem rc_weights {H : Type} {dd : List (DataW H)} {l : List UInt8} (h3 : dd[3]? = some (.lit (.string l))) : l.length ∈ (DataW.agg dd).weights Tryd.prog 61 := by
  rw [DataW.weights, Tryd.underlying61]
  exact DataW.weights_mem_each (j := 3) (t := 9) rfl h3 _ (by rw [DataW.weights]; exact List.mem_singleton.2 rfl)
theorem act19_weights {H : Type} {ad dd : List (DataW H)} {l : List UInt8} (h4 : ad[4]? = some (.agg dd)) (h3 : dd[3]? = some (.lit (.string l))) : l.length ∈ (DataW.agg ad).weights Tryd.prog 71 := by
  rw [DataW.weights, Tryd.underlying71]
  exact DataW.weights_mem_each (j := 4) (t := 61) rfl h4 _ (rc_weights h3)
theorem act19_weights2 {H : Type} {ad : List (DataW H)} {l : List UInt8} (h2 : ad[2]? = some (.lit (.string l))) : l.length ∈ (DataW.agg ad).weights Tryd.prog 71 := by
  rw [DataW.weights, Tryd.underlying71]
  exact DataW.weights_mem_each (j := 2) (t := 9) rfl h2 _ (by rw [DataW.weights]; exact List.mem_singleton.2 rfl)
theorem act19_sized {H : Type} {ts : List TypeId} {ds ad dd : List (DataW H)} {s : ByteArray} (hsz : ∀ n ∈ DataW.weightsEach Tryd.prog ts ds, decide (n ≤ reachBytes) = true) {j : Nat} (ht : ts[j]? = some 71) (hd : ds[j]? = some (.agg ad))
    (h4 : ad[4]? = some (.agg dd)) (h3 : dd[3]? = some (.lit (.string s.data.toList))) : s.size ≤ 140737488351232 := by
  have h := hsz _ (DataW.weights_mem_each ht hd _ (act19_weights h4 h3))
  have h2 := of_decide_eq_true h
  rw [Array.length_toList] at h2
  exact h2
theorem act19_sized2 {H : Type} {ts : List TypeId} {ds ad : List (DataW H)} {s : ByteArray} (hsz : ∀ n ∈ DataW.weightsEach Tryd.prog ts ds, decide (n ≤ reachBytes) = true) {j : Nat} (ht : ts[j]? = some 71) (hd : ds[j]? = some (.agg ad))
    (h2 : ad[2]? = some (.lit (.string s.data.toList))) : s.size ≤ 140737488351232 := by
  have h := hsz _ (DataW.weights_mem_each ht hd _ (act19_weights2 h2))
  have h2 := of_decide_eq_true h
  rw [Array.length_toList] at h2
  exact h2
end Go.Proofs.YtckfdmkjeocadaaDoor
