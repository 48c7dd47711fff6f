/- What is read of a []cavalcadelaw17.Act: a plain opening. -/
import Derived.Test.YtckfdmkjeocadaaDoorAdmNames
import Derived.Test.YtckfdmkjeocadaaDoorLaid
import Derived.Deep.Slices
namespace Go.Proofs.YtckfdmkjeocadaaDoor
open Go.ChangeShapes Go.WideShapes Go.RowKit
set_option maxRecDepth 4000
instance : Inhabited A17 := ⟨⟨0, ByteArray.empty, TX.zero⟩⟩
section
variable {H : Type} {enc : TypeId × Value → H} {w : World} {base : Nat} {sp : Nat → Bool} {held : Bool}
theorem act17_of_trod {fuel : Nat} {cs : List Value} {y : DataW H × List MemPlace} (h : DataW.trod enc Tryd.prog w base sp held fuel 49 cs = some y) :
    ∃ (kd : Int) (s : ByteArray) (t : TX), cs = actC kd s t ∧ y.2 = [] ∧ (∃ ds dd, y.1 = .agg ds ∧ ds[1]? = some (.lit (.string s.data.toList)) ∧ ds[2]? = some (.agg dd) ∧ dd[4]? = some (.lit (.string t.data.data.toList))) ∧ (t.data.size ≤ 140737488351232 → t.wf) := by
  cases fuel with
  | zero => simp [DataW.trod] at h
  | succ fuel =>
    have hc1 : Tryd.prog.cellsOf 3 = 1 := by kernel_rfl
    have hc2 : Tryd.prog.cellsOf 9 = 1 := by kernel_rfl
    have hc3 : Tryd.prog.cellsOf 25 = 72 := by kernel_rfl
    have hc4 : Tryd.prog.cellsOf 49 = 74 := by kernel_rfl
    simp only [DataW.trod, Tryd.underlying49, hc4] at h
    split at h
    · rename_i hl
      rw [Option.map_eq_some_iff] at h
      obtain ⟨xs, hx, rfl⟩ := h
      have hlen := mapM_some_length hx
      have hlx : xs.length = 3 := by simp at hlen; exact hlen
      have e0 := mapM_some_get hx 0 _ rfl
      simp only [hc1] at e0
      rw [take_at (by omega)] at e0
      rw [List.getElem?_eq_getElem (by omega)] at e0
      obtain ⟨n0, c0, y0, w0⟩ := int_of_trod Tryd.underlying3 e0
      have e1 := mapM_some_get hx 1 _ rfl
      simp only [hc2] at e1
      rw [take_at (by omega)] at e1
      rw [List.getElem?_eq_getElem (by omega)] at e1
      obtain ⟨s1, c1, y1⟩ := str_of_trod e1
      have e2 := mapM_some_get hx 2 _ rfl
      simp only [hc3] at e2
      rw [List.getElem?_eq_getElem (by omega)] at e2
      obtain ⟨t, c2, y2, ⟨dd, z1, z2⟩, hwf⟩ := tx_of_trod e2
      refine ⟨n0, s1, t, ?_, ?_, ⟨_, dd, rfl, ?_, ?_, z2⟩, hwf⟩
      · have hs : cs = cs[0]'(by omega) :: cs[1]'(by omega) :: (cs.drop 2).take 72 := by
          match cs, hl with
          | a :: b :: r, hl =>
            have hr : r.length = 72 := by simpa using hl
            simp [List.take_of_length_le (show r.length ≤ 72 by omega)]
        rw [actC, ← c0, ← c1, ← c2]
        exact hs
      · show List.flatMap _ xs = []
        rw [List.flatMap_eq_nil_iff]
        intro q hq
        obtain ⟨i, hi, rfl⟩ := List.getElem_of_mem hq
        have hi2 : i < 3 := by omega
        match i, hi2 with
        | 0, _ => rw [y0]
        | 1, _ => rw [y1]
        | 2, _ => exact y2
      · rw [List.getElem?_map, List.getElem?_eq_getElem (by omega)]
        exact congrArg (fun q : DataW H × List MemPlace => some q.1) y1
      · rw [List.getElem?_map, List.getElem?_eq_getElem (by omega)]
        exact congrArg some z1
    · cases h
end
theorem act17_weights {H : Type} {ad dd : List (DataW H)} {l : List UInt8} (h4 : ad[2]? = some (.agg dd)) (h3 : dd[4]? = some (.lit (.string l))) : l.length ∈ (DataW.agg ad).weights Tryd.prog 49 := by
  rw [DataW.weights, Tryd.underlying49]
  exact DataW.weights_mem_each (j := 2) (t := 25) rfl h4 _ (tx_weights h3)
theorem act17_weights1 {H : Type} {ad : List (DataW H)} {l : List UInt8} (h2 : ad[1]? = some (.lit (.string l))) : l.length ∈ (DataW.agg ad).weights Tryd.prog 49 := by
  rw [DataW.weights, Tryd.underlying49]
  exact DataW.weights_mem_each (j := 1) (t := 9) rfl h2 _ (by rw [DataW.weights]; exact List.mem_singleton.2 rfl)
theorem wAll_mem {H : Type} {P : Program} {e : TypeId} : ∀ {l : List (DataW H)} {d : DataW H}, d ∈ l → ∀ n ∈ d.weights P e, n ∈ DataW.weightsAll P e l
  | [], _, h, _, _ => by cases h
  | x :: xs, d, h, n, hn => by
    simp only [DataW.weightsAll, List.mem_append]
    rcases List.mem_cons.1 h with rfl | h
    · exact .inl hn
    · exact .inr (wAll_mem h n hn)
theorem spot_none {w : World} {a : Addr} {v : Value} (h : w.cell? a = some v) : a = ⟨a.block, a.off, none⟩ := by
  unfold World.cell? at h
  split at h
  · cases a with
    | mk b o s =>
      cases s with
      | none => rfl
      | some s => simp at h
  · cases h
section
variable {H : Type} {enc : TypeId × Value → H} {w : World} {sp : Nat → Bool} {held : Bool}
/-- what is known of a call that was read -/
def ActRead (d : DataW H) (a : A17) : Prop := (a.t.data.size ≤ 140737488351232 → a.t.wf) ∧ ∃ ad dd, d = .agg ad ∧ ad[1]? = some (.lit (.string a.s.data.toList)) ∧ ad[2]? = some (.agg dd) ∧ dd[4]? = some (.lit (.string a.t.data.data.toList))
theorem acts17_of_trod {fuel : Nat} {v : Value} {x : DataW H × List MemPlace} (h : DataW.trod enc Tryd.prog w 0 sp held fuel 40 [v] = some x) :
    (v = .slice none 0 0 ∧ x.1 = .nil) ∨ ∃ (acts : List A17) (es rest : List (DataW H)), ActsAt17 w v acts ∧ x.1 = .slice es rest ∧ ∀ a ∈ acts, ∃ d ∈ es, ActRead d a := by
  rcases Go.Deep.open_slice Tryd.underlying40 h with ⟨h1, h2⟩ | ⟨a, len, cap, m, n, D, Pl, h1, _, hlc, _, hm, hx, hall⟩
  · exact .inl ⟨by simpa using h1, by rw [h2]⟩
  · right
    have hc : Tryd.prog.cellsOf 49 = 74 := by kernel_rfl
    obtain rfl : v = .slice (some a) len cap := by simpa using h1
    have hlm : len ≤ m := by rw [hm]; split <;> omega
    obtain ⟨f, hf⟩ := Go.Deep.choose_lt (n := len) (α := A17) (p := fun i act => w.cells? 0 (a.add (i * 74)) 74 = some act.cells ∧ ActRead (D i) act) (fun i hi => by
      obtain ⟨cs', h3, h4⟩ := hall i (by omega)
      rw [hc] at h3
      obtain ⟨kd, s, t, hcs, _, ⟨ds, dd, hd, hd2, hd4, hd3⟩, hwf⟩ := act17_of_trod h4
      exact ⟨⟨kd, s, t⟩, by rw [h3, hcs]; rfl, hwf, ds, dd, hd, hd2, hd4, hd3⟩)
    refine ⟨(List.range len).map f, (List.range len).map D, (List.range (m - len)).map (fun j => D (len + j)), ?_, by rw [hx], ?_⟩
    · refine ⟨some a, cap, by rw [List.length_map, List.length_range], ?_⟩
      by_cases h0 : len = 0
      · subst h0
        exact .inl rfl
      · right
        have hp := hf 0 (by omega)
        obtain ⟨_, hlen, hcell⟩ := World.cells?_some hp.1
        have hc0 := hcell 0 (by omega)
        rw [Nat.zero_mul] at hc0
        have hc1 : w.cell? a = some (.int .i64 (f 0).kd) := by
          rw [show (a.add 0).add 0 = a by simp [Addr.add]] at hc0
          exact hc0
        have ha := spot_none hc1
        refine ⟨a.block, a.off, by rw [← ha], block_of_cell hc1, fun i hi j u hj => ?_⟩
        rw [List.length_map, List.length_range] at hi
        have hi2 := hf i hi
        obtain ⟨_, hlen2, hcell2⟩ := World.cells?_some hi2.1
        rw [List.getElem_map, List.getElem_range] at hj
        have hj72 : j < 74 := by
          rcases Nat.lt_or_ge j 74 with h5 | h5
          · exact h5
          · rw [List.getElem?_eq_none (by omega)] at hj; cases hj
        have h6 := hcell2 j hj72
        rw [hj, ha] at h6
        simp only [Addr.add_mid] at h6
        exact h6
    · intro act hact
      obtain ⟨i, hi, rfl⟩ := List.mem_map.1 hact
      exact ⟨D i, List.mem_map.2 ⟨i, hi, rfl⟩, (hf i (List.mem_range.1 hi)).2⟩
end
theorem acts17_wf {H : Type} {ts : List TypeId} {ds es rest : List (DataW H)} (hsz : ∀ n ∈ DataW.weightsEach Tryd.prog ts ds, decide (n ≤ reachBytes) = true) {j : Nat} (ht : ts[j]? = some 40) (hd : ds[j]? = some (.slice es rest))
    {acts : List A17} (h : ∀ a ∈ acts, ∃ d ∈ es, ActRead d a) : ∀ a ∈ acts, a.wf := by
  intro a ha
  obtain ⟨d, hde, hwf, ad, dd, rfl, h2, h4, h3⟩ := h a ha
  have hm : ∀ n ∈ (DataW.agg ad).weights Tryd.prog 49, n ≤ 140737488351232 := fun n hn => by
    have h5 : n ∈ (DataW.slice es rest).weights Tryd.prog 40 := by
      rw [DataW.weights, Tryd.underlying40]
      exact List.mem_cons_of_mem _ (List.mem_append_left _ (wAll_mem hde n hn))
    exact of_decide_eq_true (hsz _ (DataW.weights_mem_each ht hd _ h5))
  have b1 := hm _ (act17_weights1 h2)
  have b2 := hm _ (act17_weights h4 h3)
  rw [Array.length_toList] at b1 b2
  exact ⟨hwf b2, Nat.le_trans b1 (by decide)⟩
theorem acts17_nil (w : World) : ActsAt17 w (.slice none 0 0) [] := ⟨none, 0, rfl, .inl rfl⟩
/-- an argument that is calls: what the law's walk wants of it -/
theorem acts17_open {H : Type} {enc : TypeId × Value → H} {w : World} {v : Value} {d : DataW H} {p : List MemPlace} {ts : List TypeId} {ds : List (DataW H)} (h : DataW.Trod enc Tryd.prog w 0 (fun _ => true) true 40 v d p)
    (hsz : ∀ n ∈ DataW.weightsEach Tryd.prog ts ds, decide (n ≤ reachBytes) = true) {j : Nat} (ht : ts[j]? = some 40) (hd : ds[j]? = some d) (hv : ∃ a len cap, v = .slice a len cap) : ∃ acts, ActsAt17 w v acts ∧ ∀ a ∈ acts, a.wf := by
  obtain ⟨fuel, hf⟩ := h
  obtain ⟨q0, l0, c0, rfl⟩ := hv
  rcases acts17_of_trod hf with ⟨h1, _⟩ | ⟨acts, es, rest, h1, h2, h3⟩
  · rw [h1]
    exact ⟨[], acts17_nil w, by simp⟩
  · exact ⟨acts, h1, acts17_wf hsz ht (by rw [hd]; exact congrArg some h2) h3⟩
end Go.Proofs.YtckfdmkjeocadaaDoor
