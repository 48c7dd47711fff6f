/- What is read of a batch, of blocks: plain openings. -/
import Derived.Test.YtbeooeihedhabaaDoorRd
import Derived.Test.YtbeooeihedhabaaDoorLaidB
import Derived.Test.YtbeooeihedhabaaDoorBxLdPure
namespace Go.Proofs.YtbeooeihedhabaaDoor
open Go.ChangeShapes Go.WideShapes Go.RowKit
set_option maxRecDepth 4000
section
variable {H : Type} {enc : TypeId × Value → H} {w : World} {base : Nat} {sp : Nat → Bool} {held : Bool}
theorem rd_sliceL {P : Program} {t e : TypeId} {α : Type} [Inhabited α] {cells : α → List Value} {R : DataW H → α → Prop} {sz fuel : Nat} {v : Value} {x : DataW H × List MemPlace} (ht : P.underlying t = some (.slice e)) (hc : P.cellsOf e = sz) (hsz : 0 < sz) (hcl : ∀ a, (cells a).length = sz)
    (he : ∀ n cs y, DataW.trod enc P w 0 sp held n e cs = some y → ∃ a : α, cs = cells a ∧ R y.1 a) (h : DataW.trod enc P w 0 sp held fuel t [v] = some x) :
    (v = .slice none 0 0 ∧ x.1 = .nil) ∨ ∃ (as_ : List α) (es rest : List (DataW H)), RdRows w v sz (as_.map cells) (fun b => b < w.heap.size) ∧ x.1 = .slice es rest ∧ as_.length = es.length ∧ (∃ q c, v = .slice q as_.length c ∧ as_.length ≤ c) ∧ ∀ a ∈ as_, ∃ d ∈ es, R d a := by
  rcases Go.Deep.open_slice ht h with ⟨h1, h2⟩ | ⟨a, len, cap, m, n, D, Pl, h1, _, hlc, _, hm, hx, hall⟩
  · exact .inl ⟨by simpa using h1, by rw [h2]⟩
  · right
    rw [hc] at hall
    obtain rfl : v = .slice (some a) len cap := by simpa using h1
    have hlm : len ≤ m := by rw [hm]; split <;> omega
    obtain ⟨f, hf⟩ := Go.Deep.choose_lt (n := len) (α := α) (p := fun i y => w.cells? 0 (a.add (i * sz)) sz = some (cells y) ∧ R (D i) y) (fun i hi => by
      obtain ⟨cs', h3, h4⟩ := hall i (by omega)
      obtain ⟨y, hy, hR⟩ := he _ _ _ h4
      exact ⟨y, by rw [h3, hy], hR⟩)
    refine ⟨(List.range len).map f, (List.range len).map D, (List.range (m - len)).map (fun j => D (len + j)), ⟨some a, cap, by rw [List.length_map, List.length_map, List.length_range], fun k hk => ?_⟩, by rw [hx], by rw [List.length_map, List.length_map], ⟨some a, cap, by rw [List.length_map, List.length_range], by rw [List.length_map, List.length_range]; exact hlc⟩, ?_⟩
    · have hk2 : k < len := by simpa using hk
      have hp := hf 0 (by omega)
      obtain ⟨_, hlen, hcell⟩ := World.cells?_some hp.1
      have hc0 := hcell 0 (by omega)
      rw [Nat.zero_mul, show (a.add 0).add 0 = a by simp [Addr.add]] at hc0
      rw [List.getElem?_eq_getElem (by rw [hcl]; exact hsz)] at hc0
      have ha := rd_spot_none hc0
      refine ⟨a.block, a.off, by rw [← ha], rd_block_of_cell hc0, rd_block_of_cell hc0, fun j u hj => ?_⟩
      obtain ⟨_, hlen2, hcell2⟩ := World.cells?_some (hf k hk2).1
      rw [List.getElem_map, List.getElem_map, List.getElem_range] at hj
      have hjs : j < sz := by
        rcases Nat.lt_or_ge j sz with h5 | h5
        · exact h5
        · rw [List.getElem?_eq_none (by rw [hcl]; exact h5)] at hj; cases hj
      have h6 := hcell2 j hjs
      rw [hj, ha] at h6
      simp only [Addr.add_mid] at h6
      exact h6
    · intro y hy
      obtain ⟨i, hi, rfl⟩ := List.mem_map.1 hy
      exact ⟨D i, List.mem_map.2 ⟨i, hi, rfl⟩, (hf i (List.mem_range.1 hi)).2⟩

instance : Inhabited PT := ⟨⟨false, ByteArray.empty⟩⟩
instance : Inhabited IT := ⟨⟨0, 0, 0, ByteArray.empty⟩⟩
instance : Inhabited {b : BK // b.parent.length = 32} := ⟨⟨⟨0, 0, z32, .slice none 0 0, []⟩, z32_length⟩⟩
theorem pt_of_trod {fuel : Nat} {cs : List Value} {y : DataW H × List MemPlace} (h : DataW.trod enc Tryd.prog w base sp held fuel 57 cs = some y) : ∃ x : PT, cs = x.cells ∧ ∃ ad, y.1 = .agg ad ∧ ad[1]? = some (.lit (.string x.text.data.toList)) := by
  obtain ⟨n, xs, hl, hlx, rfl, hx⟩ := rd_struct Tryd.underlying57 h
  have hc1 : Tryd.prog.cellsOf 4 = 1 := by kernel_rfl
  have hc2 : Tryd.prog.cellsOf 9 = 1 := by kernel_rfl
  rw [show Tryd.prog.cellsOf 57 = 2 by kernel_rfl] at hl
  have hlx2 : xs.length = 2 := hlx
  match cs, hl with
  | [c0, c1], _ =>
    have e0 := hx 0 _ rfl
    have e1 := hx 1 _ rfl
    simp only [hc1, hc2] at e0 e1
    rw [List.getElem?_eq_getElem (by omega)] at e0 e1
    obtain ⟨d, rfl, y0⟩ := rd_bool e0
    obtain ⟨s1, rfl, y1⟩ := rd_str e1
    refine ⟨⟨d, s1⟩, rfl, _, rfl, ?_⟩
    rw [List.getElem?_map, List.getElem?_eq_getElem (by omega)]
    exact congrArg (fun q : DataW H × List MemPlace => some q.1) y1
theorem it_of_trod {fuel : Nat} {cs : List Value} {y : DataW H × List MemPlace} (h : DataW.trod enc Tryd.prog w base sp held fuel 59 cs = some y) : ∃ x : IT, cs = x.cells ∧ ∃ ad, y.1 = .agg ad ∧ ad[3]? = some (.lit (.string x.text.data.toList)) := by
  obtain ⟨n, xs, hl, hlx, rfl, hx⟩ := rd_struct Tryd.underlying59 h
  have hc1 : Tryd.prog.cellsOf 3 = 1 := by kernel_rfl
  have hc2 : Tryd.prog.cellsOf 9 = 1 := by kernel_rfl
  rw [show Tryd.prog.cellsOf 59 = 4 by kernel_rfl] at hl
  have hlx2 : xs.length = 4 := hlx
  match cs, hl with
  | [c0, c1, c2, c3], _ =>
    have e0 := hx 0 _ rfl
    have e1 := hx 1 _ rfl
    have e2 := hx 2 _ rfl
    have e3 := hx 3 _ rfl
    simp only [hc1, hc2] at e0 e1 e2 e3
    rw [List.getElem?_eq_getElem (by omega)] at e0 e1 e2 e3
    obtain ⟨k, rfl, y0, _⟩ := rd_int e0
    obtain ⟨b, rfl, y1, _⟩ := rd_int e1
    obtain ⟨m, rfl, y2, _⟩ := rd_int e2
    obtain ⟨s3, rfl, y3⟩ := rd_str e3
    refine ⟨⟨k, b, m, s3⟩, rfl, _, rfl, ?_⟩
    rw [List.getElem?_map, List.getElem?_eq_getElem (by omega)]
    exact congrArg (fun q : DataW H × List MemPlace => some q.1) y3
/-- a slice's length, by its weight -/
theorem rd_len {P : Program} {t e : TypeId} {es rest : List (DataW H)} {n : Nat} (ht : P.underlying t = some (.slice e)) (hb : 1 ≤ P.bytesOf e) (hw : ∀ n ∈ (DataW.slice es rest).weights P t, n ≤ 140737488351232) (hn : n = es.length) : n ≤ 140737488351232 := by
  have h := hw _ (by rw [DataW.weights, ht]; exact List.mem_cons_self ..)
  have : es.length ≤ (es.length + rest.length) * P.bytesOf e := Nat.le_trans (Nat.le_add_right _ _) (Nat.le_mul_of_pos_right _ hb)
  omega
theorem pts_of_trod {fuel : Nat} {v : Value} {x : DataW H × List MemPlace} (h : DataW.trod enc Tryd.prog w 0 sp held fuel 22 [v] = some x) (hw : ∀ n ∈ x.1.weights Tryd.prog 22, n ≤ 140737488351232) :
    ∃ l : List PT, RdRows w v 2 (l.map PT.cells) (fun b => b < w.heap.size) ∧ l.length ≤ 140737488351232 ∧ ∀ p ∈ l, p.text.size ≤ 140737488351232 := by
  rcases rd_sliceL (α := PT) (cells := PT.cells) (R := fun d p => ∃ ad, d = .agg ad ∧ ad[1]? = some (.lit (.string p.text.data.toList))) Tryd.underlying22 (sz := 2) (by kernel_rfl) (by decide) (fun _ => rfl) (fun n cs y h => pt_of_trod h) h with ⟨h1, _⟩ | ⟨l, es, rest, h1, h2, h3, -, h4⟩
  · rw [h1]
    exact ⟨[], RdRows.nil w 2 _, Nat.zero_le _, by simp⟩
  · rw [h2] at hw
    refine ⟨l, h1, rd_len Tryd.underlying22 (by rw [show Tryd.prog.bytesOf 57 = 24 by kernel_rfl]; decide) hw h3, fun p hp => ?_⟩
    obtain ⟨d1, hd1, ad, rfl, hr⟩ := h4 p hp
    have := hw _ (rd_weights Tryd.underlying22 hd1 (rd_field Tryd.underlying57 (j := 1) rfl hr (rd_str_w _)))
    rw [Array.length_toList] at this
    exact this
theorem its_of_trod {fuel : Nat} {v : Value} {x : DataW H × List MemPlace} (h : DataW.trod enc Tryd.prog w 0 sp held fuel 60 [v] = some x) :
    ∃ l : List IT, RdRows w v 4 (l.map IT.cells) (fun b => b < w.heap.size) ∧ ((∀ n ∈ x.1.weights Tryd.prog 60, n ≤ 140737488351232) → l.length ≤ 140737488351232 ∧ ∀ p ∈ l, p.text.size ≤ 140737488351232) := by
  rcases rd_sliceL (α := IT) (cells := IT.cells) (R := fun d p => ∃ ad, d = .agg ad ∧ ad[3]? = some (.lit (.string p.text.data.toList))) Tryd.underlying60 (sz := 4) (by kernel_rfl) (by decide) (fun _ => rfl) (fun n cs y h => it_of_trod h) h with ⟨h1, _⟩ | ⟨l, es, rest, h1, h2, h3, -, h4⟩
  · rw [h1]
    exact ⟨[], RdRows.nil w 4 _, fun _ => ⟨Nat.zero_le _, by simp⟩⟩
  · refine ⟨l, h1, fun hw => ?_⟩
    rw [h2] at hw
    refine ⟨rd_len Tryd.underlying60 (by rw [show Tryd.prog.bytesOf 59 = 40 by kernel_rfl]; decide) hw h3, fun p hp => ?_⟩
    obtain ⟨d1, hd1, ad, rfl, hr⟩ := h4 p hp
    have := hw _ (rd_weights Tryd.underlying60 hd1 (rd_field Tryd.underlying59 (j := 3) rfl hr (rd_str_w _)))
    rw [Array.length_toList] at this
    exact this
/-- a batch -/
theorem bt_of_trod {fuel : Nat} {cs : List Value} {y : DataW H × List MemPlace} (h : DataW.trod enc Tryd.prog w 0 sp held fuel 24 cs = some y) (hw : ∀ n ∈ y.1.weights Tryd.prog 24, n ≤ 140737488351232) :
    ∃ (b : BT) (v : Value), cs = b.cells v ∧ PtsAt w v b.parts ∧ b.parts.length ≤ 140737488351232 ∧ ∀ p ∈ b.parts, p.text.size ≤ 140737488351232 := by
  obtain ⟨n, xs, hl, hlx, rfl, hx⟩ := rd_struct Tryd.underlying24 h
  have hc1 : Tryd.prog.cellsOf 3 = 1 := by kernel_rfl
  have hc2 : Tryd.prog.cellsOf 22 = 1 := by kernel_rfl
  rw [show Tryd.prog.cellsOf 24 = 4 by kernel_rfl] at hl
  have hlx2 : xs.length = 4 := hlx
  match cs, hl with
  | [c0, c1, c2, c3], _ =>
    have e0 := hx 0 _ rfl
    have e1 := hx 1 _ rfl
    have e2 := hx 2 _ rfl
    have e3 := hx 3 _ rfl
    simp only [hc1, hc2] at e0 e1 e2 e3
    rw [List.getElem?_eq_getElem (by omega)] at e0 e1 e2 e3
    obtain ⟨k, rfl, y0, _⟩ := rd_int e0
    obtain ⟨b, rfl, y1, _⟩ := rd_int e1
    obtain ⟨m, rfl, y2, _⟩ := rd_int e2
    obtain ⟨l, h1, h2, h3⟩ := pts_of_trod e3 (fun n hn => hw n (rd_field Tryd.underlying24 (j := 3) rfl (by rw [List.getElem?_map, List.getElem?_eq_getElem (by omega)]; rfl) hn))
    exact ⟨⟨k, b, m, l⟩, c3, rfl, h1, h2, h3⟩
/-- a block -/
theorem bk_of_trod {fuel : Nat} {cs : List Value} {y : DataW H × List MemPlace} (h : DataW.trod enc Tryd.prog w 0 sp held fuel 62 cs = some y) :
    ∃ b : BK, cs = b.cells ∧ b.parent.length = 32 ∧ RdRows w b.iv 4 (b.items.map IT.cells) (fun k => k < w.heap.size) ∧ ((∀ n ∈ y.1.weights Tryd.prog 62, n ≤ 140737488351232) → b.items.length ≤ 140737488351232 ∧ ∀ p ∈ b.items, p.text.size ≤ 140737488351232) := by
  obtain ⟨n, xs, hl, hlx, rfl, hx⟩ := rd_struct Tryd.underlying62 h
  have hc1 : Tryd.prog.cellsOf 3 = 1 := by kernel_rfl
  have hc2 : Tryd.prog.cellsOf 60 = 1 := by kernel_rfl
  have hc32 : Tryd.prog.cellsOf 51 = 32 := by kernel_rfl
  rw [show Tryd.prog.cellsOf 62 = 35 by kernel_rfl] at hl
  have hlx2 : xs.length = 4 := hlx
  match cs, hl with
  | c0 :: c1 :: r, hl =>
    have hlr : r.length = 33 := by simpa using hl
    have e0 := hx 0 _ rfl
    have e1 := hx 1 _ rfl
    have e2 := hx 2 _ rfl
    have e3 := hx 3 _ rfl
    simp only [hc1, hc2, hc32] at e0 e1 e2 e3
    rw [List.getElem?_eq_getElem (by omega)] at e0 e1 e2 e3
    obtain ⟨k, rfl, y0, _⟩ := rd_int e0
    obtain ⟨b, rfl, y1, _⟩ := rd_int e1
    obtain ⟨ph, hph, hcs, _⟩ := hash_of_trod e2
    rw [List.drop_succ_cons, List.drop_succ_cons, List.drop_zero] at hcs
    obtain ⟨c34, hc34⟩ : ∃ c34, r.drop 32 = [c34] := List.length_eq_one_iff.1 (by rw [List.length_drop]; omega)
    have e3' : DataW.trod enc Tryd.prog w 0 sp held n 60 [c34] = some (xs[3]'(by omega)) := by
      have : (List.drop 34 (Value.int .i64 k :: Value.int .i64 b :: r)).take 1 = [c34] := by
        rw [List.drop_succ_cons, List.drop_succ_cons, hc34]
        rfl
      rw [← this]
      exact e3
    obtain ⟨l, h1, h2⟩ := its_of_trod e3'
    refine ⟨⟨k, b, ph, c34, l⟩, ?_, hph, h1, fun hw => h2 fun n hn => hw n (rd_field Tryd.underlying62 (j := 3) rfl (by rw [List.getElem?_map, List.getElem?_eq_getElem (by omega)]; rfl) hn)⟩
    unfold BK.cells
    dsimp only
    rw [← hcs, ← hc34, List.take_append_drop]
/-- blocks -/
theorem rd_sliceB {fuel : Nat} {v : Value} {x : DataW H × List MemPlace} (h : DataW.trod enc Tryd.prog w 0 sp held fuel 34 [v] = some x) :
    (v = .slice none 0 0 ∧ x.1 = .nil) ∨ ∃ (l : List BK) (es rest : List (DataW H)), RdRows w v 35 (l.map BK.cells) (fun b => b < w.heap.size) ∧ x.1 = .slice es rest ∧ l.length = es.length ∧ (∃ q c, v = .slice q l.length c ∧ l.length ≤ c) ∧ ∀ b ∈ l, ∃ d ∈ es, b.parent.length = 32 ∧ RdRows w b.iv 4 (b.items.map IT.cells) (fun k => k < w.heap.size) ∧ ((∀ n ∈ d.weights Tryd.prog 62, n ≤ 140737488351232) → b.items.length ≤ 140737488351232 ∧ ∀ p ∈ b.items, p.text.size ≤ 140737488351232) := by
  rcases rd_sliceL (α := {b : BK // b.parent.length = 32}) (cells := fun b => b.1.cells) (R := fun d b => RdRows w b.1.iv 4 (b.1.items.map IT.cells) (fun k => k < w.heap.size) ∧ ((∀ n ∈ d.weights Tryd.prog 62, n ≤ 140737488351232) → b.1.items.length ≤ 140737488351232 ∧ ∀ p ∈ b.1.items, p.text.size ≤ 140737488351232)) Tryd.underlying34 (sz := 35) (by kernel_rfl) (by decide) (fun b => BK.cells_length b.2) (fun n cs y h => by
    obtain ⟨b, h1, h2, h3, h4⟩ := bk_of_trod h
    exact ⟨⟨b, h2⟩, h1, h3, h4⟩) h with h1 | ⟨l, es, rest, h1, h2, h3, h5, h4⟩
  · exact .inl h1
  · refine .inr ⟨l.map (·.1), es, rest, ?_, h2, by rw [List.length_map, h3], by rw [List.length_map]; exact h5, fun b hb => ?_⟩
    · rw [List.map_map]
      exact h1
    · obtain ⟨b', hb', rfl⟩ := List.mem_map.1 hb
      obtain ⟨d, hd, k1, k2⟩ := h4 b' hb'
      exact ⟨d, hd, b'.2, k1, k2⟩
/-- an argument that is a batch -/
theorem bt_open {cs : Array Value} {d : DataW H} {p : List MemPlace} {ts : List TypeId} {ds : List (DataW H)} (h : DataW.Trod enc Tryd.prog w 0 (fun _ => true) true 24 (.agg cs) d p)
    (hsz : ∀ n ∈ DataW.weightsEach Tryd.prog ts ds, decide (n ≤ reachBytes) = true) {j : Nat} (ht : ts[j]? = some 24) (hd : ds[j]? = some d) :
    ∃ (b : BT) (v : Value), cs = (b.cells v).toArray ∧ PtsAt w v b.parts ∧ b.parts.length ≤ 140737488351232 ∧ ∀ p ∈ b.parts, p.text.size ≤ 140737488351232 := by
  obtain ⟨fuel, hf⟩ := h
  obtain ⟨b, v, h1, h2⟩ := bt_of_trod hf fun n hn => of_decide_eq_true (hsz _ (DataW.weights_mem_each ht hd _ hn))
  exact ⟨b, v, Array.ext' h1, h2⟩
/-- an argument that is blocks -/
theorem bks_open {v : Value} {d : DataW H} {p : List MemPlace} {ts : List TypeId} {ds : List (DataW H)} (h : DataW.Trod enc Tryd.prog w 0 (fun _ => true) true 34 v d p)
    (hsz : ∀ n ∈ DataW.weightsEach Tryd.prog ts ds, decide (n ≤ reachBytes) = true) {j : Nat} (ht : ts[j]? = some 34) (hd : ds[j]? = some d) (hv : ∃ a len cap, v = .slice a len cap) :
    ∃ (l : List BK) (q : Option Addr) (c : Nat), v = .slice q l.length c ∧ l.length ≤ c ∧ BksAt w (.slice q l.length c) l ∧ l.length ≤ 140737488351232 := by
  obtain ⟨fuel, hf⟩ := h
  obtain ⟨q0, l0, c0, rfl⟩ := hv
  rcases rd_sliceB hf with ⟨h1, _⟩ | ⟨l, es, rest, h1, h2, h3, ⟨q, c, hv, hlc⟩, h4⟩
  · rw [h1]
    exact ⟨[], none, 0, rfl, Nat.le_refl _, ⟨RdRows.nil w 35 _, by simp⟩, Nat.zero_le _⟩
  · have h2' : d = .slice es rest := h2
    have hw : ∀ n ∈ (DataW.slice es rest).weights Tryd.prog 34, n ≤ 140737488351232 := fun n hn => of_decide_eq_true (hsz _ (DataW.weights_mem_each ht hd _ (by rw [h2']; exact hn)))
    rw [hv] at h1 ⊢
    refine ⟨l, q, c, rfl, hlc, ⟨h1, fun b hb => ?_⟩, rd_len Tryd.underlying34 (by rw [show Tryd.prog.bytesOf 62 = 72 by kernel_rfl]; decide) hw h3⟩
    obtain ⟨d1, hd1, k1, k2, k3⟩ := h4 b hb
    obtain ⟨k4, k5⟩ := k3 fun n hn => hw n (rd_weights Tryd.underlying34 hd1 hn)
    exact ⟨k2, k1, Nat.le_trans k4 (by decide), k5⟩
end
end Go.Proofs.YtbeooeihedhabaaDoor
