/- What is read of an api.Receipt, of a cavalcadelaw19.Act: plain openings. What is read of a []cavalcadelaw19.Act: a plain opening. -/
import Derived.Test.YtckfdmkjeocadaaDoorMade
import Derived.Test.YtckfdmkjeocadaaDoorLaid
import Derived.Deep.Slices
namespace Go.Proofs.YtckfdmkjeocadaaDoor
open Go.ChangeShapes Go.WideShapes Go.RowKit
set_option maxRecDepth 4000
section
variable {H : Type} {enc : TypeId × Value → H} {w : World} {base : Nat} {sp : Nat → Bool} {held : Bool}
theorem split68 : ∀ {cs : List Value} (hl : cs.length = 68), cs = [cs[0]'(by omega), cs[1]'(by omega), cs[2]'(by omega), cs[3]'(by omega)] ++ ((cs.drop 4).take 32 ++ (cs.drop 36).take 32)
  | a0 :: a1 :: a2 :: a3 :: r, hl => by
    have hr : r.length = 64 := by simpa using hl
    simp only [List.getElem_cons_zero, List.getElem_cons_succ, List.drop_succ_cons, List.drop_zero, List.cons_append, List.nil_append]
    rw [List.take_of_length_le (l := List.drop 32 r) (by rw [List.length_drop]; omega), List.take_append_drop]
  | [], hl => by simp at hl
  | [_], hl => by simp at hl
  | [_, _], hl => by simp at hl
  | [_, _, _], hl => by simp at hl
theorem rc_of_trod {fuel : Nat} {cs : List Value} {y : DataW H × List MemPlace} (h : DataW.trod enc Tryd.prog w base sp held fuel 61 cs = some y) :
    ∃ t : RC, cs = t.cells ∧ y.2 = [] ∧ (∃ ds, y.1 = .agg ds ∧ ds[3]? = some (.lit (.string t.body.data.toList))) ∧ (t.body.size ≤ 140737488351232 → t.wf) := by
  cases fuel with
  | zero => simp [DataW.trod] at h
  | succ fuel =>
    have hci : Tryd.prog.cellsOf 3 = 1 := by kernel_rfl
    have hcs : Tryd.prog.cellsOf 9 = 1 := by kernel_rfl
    have hch : Tryd.prog.cellsOf 23 = 32 := by kernel_rfl
    have hct : Tryd.prog.cellsOf 61 = 68 := by kernel_rfl
    simp only [DataW.trod, Tryd.underlying61, hct] at h
    split at h
    · rename_i hl
      rw [Option.map_eq_some_iff] at h
      obtain ⟨xs, hx, rfl⟩ := h
      have hlen := mapM_some_length hx
      have hlx : xs.length = 6 := by simp at hlen; exact hlen
      have e0 := mapM_some_get hx 0 _ rfl
      simp only [hci] at e0
      rw [take_at (by omega)] at e0
      rw [List.getElem?_eq_getElem (by omega)] at e0
      obtain ⟨n0, c0, y0, w0⟩ := int_of_trod Tryd.underlying3 e0
      have e1 := mapM_some_get hx 1 _ rfl
      simp only [hci] at e1
      rw [take_at (by omega)] at e1
      rw [List.getElem?_eq_getElem (by omega)] at e1
      obtain ⟨n1, c1, y1, w1⟩ := int_of_trod Tryd.underlying3 e1
      have e2 := mapM_some_get hx 2 _ rfl
      simp only [hci] at e2
      rw [take_at (by omega)] at e2
      rw [List.getElem?_eq_getElem (by omega)] at e2
      obtain ⟨n2, c2, y2, w2⟩ := int_of_trod Tryd.underlying3 e2
      have e3 := mapM_some_get hx 3 _ rfl
      simp only [hcs] at e3
      rw [take_at (by omega)] at e3
      rw [List.getElem?_eq_getElem (by omega)] at e3
      obtain ⟨n3, c3, y3⟩ := str_of_trod e3
      have e4 := mapM_some_get hx 4 _ rfl
      simp only [hch] at e4
      rw [List.getElem?_eq_getElem (by omega)] at e4
      obtain ⟨n4, m4, c4, y4⟩ := hash_of_trod e4
      have e5 := mapM_some_get hx 5 _ rfl
      simp only [hch] at e5
      rw [List.getElem?_eq_getElem (by omega)] at e5
      obtain ⟨n5, m5, c5, y5⟩ := hash_of_trod e5
      refine ⟨⟨n0, n1, n2, n3, n4, n5⟩, ?_, ?_, ⟨_, rfl, ?_⟩, fun hd => ⟨i64_of_wf w0, i64_of_wf w1, i64_of_wf w2, hd, m4, m5⟩⟩
      · simp only [RC.cells, ← c0, ← c1, ← c2, ← c3, ← c4, ← c5]
        exact split68 hl
      · show List.flatMap _ xs = []
        rw [List.flatMap_eq_nil_iff]
        intro q hq
        obtain ⟨i, hi, rfl⟩ := List.getElem_of_mem hq
        have hi2 : i < 6 := by omega
        match i, hi2 with
        | 0, _ => rw [y0]
        | 1, _ => rw [y1]
        | 2, _ => rw [y2]
        | 3, _ => rw [y3]
        | 4, _ => exact y4
        | 5, _ => exact y5
      · rw [List.getElem?_map, List.getElem?_eq_getElem (by omega)]
        exact congrArg (fun q : DataW H × List MemPlace => some q.1) y3
    · cases h
theorem act19_of_trod {fuel : Nat} {cs : List Value} {y : DataW H × List MemPlace} (h : DataW.trod enc Tryd.prog w base sp held fuel 71 cs = some y) :
    ∃ (kd lt : Int) (s : ByteArray) (ld : Bool) (t : RC), cs = actQ kd lt s ld t ∧ y.2 = [] ∧ (∃ ds dd, y.1 = .agg ds ∧ ds[2]? = some (.lit (.string s.data.toList)) ∧ ds[4]? = some (.agg dd) ∧ dd[3]? = some (.lit (.string t.body.data.toList))) ∧ i64ok kd ∧ i64ok lt ∧ (t.body.size ≤ 140737488351232 → t.wf) := by
  cases fuel with
  | zero => simp [DataW.trod] at h
  | succ fuel =>
    have hci : Tryd.prog.cellsOf 3 = 1 := by kernel_rfl
    have hcs : Tryd.prog.cellsOf 9 = 1 := by kernel_rfl
    have hcb : Tryd.prog.cellsOf 4 = 1 := by kernel_rfl
    have hcr : Tryd.prog.cellsOf 61 = 68 := by kernel_rfl
    have hct : Tryd.prog.cellsOf 71 = 72 := by kernel_rfl
    simp only [DataW.trod, Tryd.underlying71, hct] at h
    split at h
    · rename_i hl
      rw [Option.map_eq_some_iff] at h
      obtain ⟨xs, hx, rfl⟩ := h
      have hlen := mapM_some_length hx
      have hlx : xs.length = 5 := by simp at hlen; exact hlen
      have e0 := mapM_some_get hx 0 _ rfl
      simp only [hci] at e0
      rw [take_at (by omega)] at e0
      rw [List.getElem?_eq_getElem (by omega)] at e0
      obtain ⟨n0, c0, y0, w0⟩ := int_of_trod Tryd.underlying3 e0
      have e1 := mapM_some_get hx 1 _ rfl
      simp only [hci] at e1
      rw [take_at (by omega)] at e1
      rw [List.getElem?_eq_getElem (by omega)] at e1
      obtain ⟨n1, c1, y1, w1⟩ := int_of_trod Tryd.underlying3 e1
      have e2 := mapM_some_get hx 2 _ rfl
      simp only [hcs] at e2
      rw [take_at (by omega)] at e2
      rw [List.getElem?_eq_getElem (by omega)] at e2
      obtain ⟨n2, c2, y2⟩ := str_of_trod e2
      have e3 := mapM_some_get hx 3 _ rfl
      simp only [hcb] at e3
      rw [take_at (by omega)] at e3
      rw [List.getElem?_eq_getElem (by omega)] at e3
      obtain ⟨n3, c3, y3⟩ := bool_of_trod e3
      have e4 := mapM_some_get hx 4 _ rfl
      simp only [hcr] at e4
      rw [List.getElem?_eq_getElem (by omega)] at e4
      obtain ⟨n4, c4, y4, ⟨dd, z1, z2⟩, hwf⟩ := rc_of_trod e4
      refine ⟨n0, n1, n2, n3, n4, ?_, ?_, ⟨_, dd, rfl, ?_, ?_, z2⟩, i64_of_wf w0, i64_of_wf w1, hwf⟩
      · have hs : cs = cs[0]'(by omega) :: cs[1]'(by omega) :: cs[2]'(by omega) :: cs[3]'(by omega) :: (cs.drop 4).take 68 := by
          match cs, hl with
          | a :: b :: c :: d :: r, hl =>
            have hr : r.length = 68 := by simpa using hl
            simp [List.take_of_length_le (show r.length ≤ 68 by omega)]
        rw [actQ, ← c0, ← c1, ← c2, ← c3, ← c4]
        exact hs
      · show List.flatMap _ xs = []
        rw [List.flatMap_eq_nil_iff]
        intro q hq
        obtain ⟨i, hi, rfl⟩ := List.getElem_of_mem hq
        have hi2 : i < 5 := by omega
        match i, hi2 with
        | 0, _ => rw [y0]
        | 1, _ => rw [y1]
        | 2, _ => rw [y2]
        | 3, _ => rw [y3]
        | 4, _ => exact y4
      · rw [List.getElem?_map, List.getElem?_eq_getElem (by omega)]
        exact congrArg (fun q : DataW H × List MemPlace => some q.1) y2
      · rw [List.getElem?_map, List.getElem?_eq_getElem (by omega)]
        exact congrArg some z1
    · cases h
end
theorem rc_weights {H : Type} {dd : List (DataW H)} {l : List UInt8} (h3 : dd[3]? = some (.lit (.string l))) : l.length ∈ (DataW.agg dd).weights Tryd.prog 61 := by
  rw [DataW.weights, Tryd.underlying61]
  exact DataW.weights_mem_each (j := 3) (t := 9) rfl h3 _ (by rw [DataW.weights]; exact List.mem_singleton.2 rfl)
theorem act19_weights {H : Type} {ad dd : List (DataW H)} {l : List UInt8} (h4 : ad[4]? = some (.agg dd)) (h3 : dd[3]? = some (.lit (.string l))) : l.length ∈ (DataW.agg ad).weights Tryd.prog 71 := by
  rw [DataW.weights, Tryd.underlying71]
  exact DataW.weights_mem_each (j := 4) (t := 61) rfl h4 _ (rc_weights h3)
theorem act19_weights2 {H : Type} {ad : List (DataW H)} {l : List UInt8} (h2 : ad[2]? = some (.lit (.string l))) : l.length ∈ (DataW.agg ad).weights Tryd.prog 71 := by
  rw [DataW.weights, Tryd.underlying71]
  exact DataW.weights_mem_each (j := 2) (t := 9) rfl h2 _ (by rw [DataW.weights]; exact List.mem_singleton.2 rfl)
theorem act19_sized {H : Type} {ts : List TypeId} {ds ad dd : List (DataW H)} {s : ByteArray} (hsz : ∀ n ∈ DataW.weightsEach Tryd.prog ts ds, decide (n ≤ reachBytes) = true) {j : Nat} (ht : ts[j]? = some 71) (hd : ds[j]? = some (.agg ad))
    (h4 : ad[4]? = some (.agg dd)) (h3 : dd[3]? = some (.lit (.string s.data.toList))) : s.size ≤ 140737488351232 := by
  have h := hsz _ (DataW.weights_mem_each ht hd _ (act19_weights h4 h3))
  have h2 := of_decide_eq_true h
  rw [Array.length_toList] at h2
  exact h2
theorem act19_sized2 {H : Type} {ts : List TypeId} {ds ad : List (DataW H)} {s : ByteArray} (hsz : ∀ n ∈ DataW.weightsEach Tryd.prog ts ds, decide (n ≤ reachBytes) = true) {j : Nat} (ht : ts[j]? = some 71) (hd : ds[j]? = some (.agg ad))
    (h2 : ad[2]? = some (.lit (.string s.data.toList))) : s.size ≤ 140737488351232 := by
  have h := hsz _ (DataW.weights_mem_each ht hd _ (act19_weights2 h2))
  have h2 := of_decide_eq_true h
  rw [Array.length_toList] at h2
  exact h2
open Go.ChangeShapes Go.WideShapes Go.RowKit
set_option maxRecDepth 4000
instance : Inhabited ACT := ⟨⟨0, 0, ByteArray.empty, false, RC.zero⟩⟩
theorem wAll_mem {H : Type} {P : Program} {e : TypeId} : ∀ {l : List (DataW H)} {d : DataW H}, d ∈ l → ∀ n ∈ d.weights P e, n ∈ DataW.weightsAll P e l
  | [], _, h, _, _ => by cases h
  | x :: xs, d, h, n, hn => by
    simp only [DataW.weightsAll, List.mem_append]
    rcases List.mem_cons.1 h with rfl | h
    · exact .inl hn
    · exact .inr (wAll_mem h n hn)
theorem spot_none {w : World} {a : Addr} {v : Value} (h : w.cell? a = some v) : a = ⟨a.block, a.off, none⟩ := by
  unfold World.cell? at h
  split at h
  · cases a with
    | mk b o s =>
      cases s with
      | none => rfl
      | some s => simp at h
  · cases h
section
variable {H : Type} {enc : TypeId × Value → H} {w : World} {sp : Nat → Bool} {held : Bool}
/-- what is known of a call that was read -/
def ActRead (d : DataW H) (a : ACT) : Prop := i64ok a.kd ∧ i64ok a.lt ∧ (a.r.body.size ≤ 140737488351232 → a.r.wf) ∧ ∃ ad dd, d = .agg ad ∧ ad[2]? = some (.lit (.string a.body.data.toList)) ∧ ad[4]? = some (.agg dd) ∧ dd[3]? = some (.lit (.string a.r.body.data.toList))
theorem acts_of_trod {fuel : Nat} {v : Value} {x : DataW H × List MemPlace} (h : DataW.trod enc Tryd.prog w 0 sp held fuel 54 [v] = some x) :
    (v = .slice none 0 0 ∧ x.1 = .nil) ∨ ∃ (acts : List ACT) (es rest : List (DataW H)), ActsAt w v acts ∧ x.1 = .slice es rest ∧ ∀ a ∈ acts, ∃ d ∈ es, ActRead d a := by
  rcases Go.Deep.open_slice Tryd.underlying54 h with ⟨h1, h2⟩ | ⟨a, len, cap, m, n, D, Pl, h1, _, hlc, _, hm, hx, hall⟩
  · exact .inl ⟨by simpa using h1, by rw [h2]⟩
  · right
    have hc : Tryd.prog.cellsOf 71 = 72 := by kernel_rfl
    obtain rfl : v = .slice (some a) len cap := by simpa using h1
    have hlm : len ≤ m := by rw [hm]; split <;> omega
    obtain ⟨f, hf⟩ := Go.Deep.choose_lt (n := len) (α := ACT) (p := fun i act => w.cells? 0 (a.add (i * 72)) 72 = some act.cells ∧ ActRead (D i) act) (fun i hi => by
      obtain ⟨cs', h3, h4⟩ := hall i (by omega)
      rw [hc] at h3
      obtain ⟨kd, lt, s, ld, t, hcs, _, ⟨ds, dd, hd, hd2, hd4, hd3⟩, hk, hl, hwf⟩ := act19_of_trod h4
      exact ⟨⟨kd, lt, s, ld, t⟩, by rw [h3, hcs]; rfl, hk, hl, hwf, ds, dd, hd, hd2, hd4, hd3⟩)
    refine ⟨(List.range len).map f, (List.range len).map D, (List.range (m - len)).map (fun j => D (len + j)), ?_, by rw [hx], ?_⟩
    · refine ⟨some a, cap, by rw [List.length_map, List.length_range], ?_⟩
      by_cases h0 : len = 0
      · subst h0
        exact .inl rfl
      · right
        have hp := hf 0 (by omega)
        obtain ⟨_, hlen, hcell⟩ := World.cells?_some hp.1
        have hc0 := hcell 0 (by omega)
        rw [Nat.zero_mul] at hc0
        have hc1 : w.cell? a = some (.int .i64 (f 0).kd) := by
          rw [show (a.add 0).add 0 = a by simp [Addr.add]] at hc0
          exact hc0
        have ha := spot_none hc1
        refine ⟨a.block, a.off, by rw [← ha], block_of_cell hc1, fun i hi j u hj => ?_⟩
        rw [List.length_map, List.length_range] at hi
        have hi2 := hf i hi
        obtain ⟨_, hlen2, hcell2⟩ := World.cells?_some hi2.1
        rw [List.getElem_map, List.getElem_range] at hj
        have hj72 : j < 72 := by
          rcases Nat.lt_or_ge j 72 with h5 | h5
          · exact h5
          · rw [List.getElem?_eq_none (by omega)] at hj; cases hj
        have h6 := hcell2 j hj72
        rw [hj, ha] at h6
        simp only [Addr.add_mid] at h6
        exact h6
    · intro act hact
      obtain ⟨i, hi, rfl⟩ := List.mem_map.1 hact
      exact ⟨D i, List.mem_map.2 ⟨i, hi, rfl⟩, (hf i (List.mem_range.1 hi)).2⟩
end
theorem acts_wf {H : Type} {ts : List TypeId} {ds es rest : List (DataW H)} (hsz : ∀ n ∈ DataW.weightsEach Tryd.prog ts ds, decide (n ≤ reachBytes) = true) {j : Nat} (ht : ts[j]? = some 54) (hd : ds[j]? = some (.slice es rest))
    {acts : List ACT} (h : ∀ a ∈ acts, ∃ d ∈ es, ActRead d a) : ∀ a ∈ acts, a.wf := by
  intro a ha
  obtain ⟨d, hde, hk, hl, hwf, ad, dd, rfl, h2, h4, h3⟩ := h a ha
  have hm : ∀ n ∈ (DataW.agg ad).weights Tryd.prog 71, n ≤ 140737488351232 := fun n hn => by
    have h5 : n ∈ (DataW.slice es rest).weights Tryd.prog 54 := by
      rw [DataW.weights, Tryd.underlying54]
      exact List.mem_cons_of_mem _ (List.mem_append_left _ (wAll_mem hde n hn))
    exact of_decide_eq_true (hsz _ (DataW.weights_mem_each ht hd _ h5))
  have b1 := hm _ (act19_weights2 h2)
  have b2 := hm _ (act19_weights h4 h3)
  rw [Array.length_toList] at b1 b2
  exact ⟨hk, hl, b1, hwf b2⟩
theorem acts_nil (w : World) : ActsAt w (.slice none 0 0) [] := ⟨none, 0, rfl, .inl rfl⟩
/-- an argument that is calls: what the law's walk wants of it -/
theorem acts_open {H : Type} {enc : TypeId × Value → H} {w : World} {v : Value} {d : DataW H} {p : List MemPlace} {ts : List TypeId} {ds : List (DataW H)} (h : DataW.Trod enc Tryd.prog w 0 (fun _ => true) true 54 v d p)
    (hsz : ∀ n ∈ DataW.weightsEach Tryd.prog ts ds, decide (n ≤ reachBytes) = true) {j : Nat} (ht : ts[j]? = some 54) (hd : ds[j]? = some d) (hv : ∃ a len cap, v = .slice a len cap) : ∃ acts, ActsAt w v acts ∧ ∀ a ∈ acts, a.wf := by
  obtain ⟨fuel, hf⟩ := h
  obtain ⟨q0, l0, c0, rfl⟩ := hv
  rcases acts_of_trod hf with ⟨h1, _⟩ | ⟨acts, es, rest, h1, h2, h3⟩
  · rw [h1]
    exact ⟨[], acts_nil w, by simp⟩
  · exact ⟨acts, h1, acts_wf hsz ht (by rw [hd]; exact congrArg some h2) h3⟩
theorem u8_of_wf {n : Int} (h : (Lit.int .u8 n).wf = true) : ∃ s : Nat, n = (s : Int) ∧ s < 256 := by
  have hw0 : IntKind.u8.min ≤ n ∧ n ≤ IntKind.u8.max := by simpa [Lit.wf] using h
  have h1 : IntKind.u8.min = 0 := by decide
  have h2 : IntKind.u8.max = 255 := by decide
  exact ⟨n.toNat, by omega, by omega⟩
end Go.Proofs.YtckfdmkjeocadaaDoor
