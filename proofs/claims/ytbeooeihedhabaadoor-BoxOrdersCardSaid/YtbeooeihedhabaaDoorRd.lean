/- Slices that are read: their items lie in blocks of a kind. Plain openings: an int, a string, a bool, a struct, a slice. -/
import Derived.Test.YtbeooeihedhabaaDoorBase
import Derived.Test.YtbeooeihedhabaaDoorRowB
import Derived.Test.YtbeooeihedhabaaDoorProg
import Derived.Deep.Slices
import Derived.ProofKit
import Derived.SizedLaws
namespace Go.Proofs.YtbeooeihedhabaaDoor
open Go.ChangeShapes Go.WideShapes Go.RowKit
set_option maxRecDepth 4000
/-- a slice whose items lie in blocks of a kind -/
def RdIn (w : World) (v : Value) (xs : List Value) (S : Nat → Prop) : Prop :=
  ∃ A c, v = .slice A xs.length c ∧ ∀ k (h : k < xs.length), ∃ b off, A = some ⟨b, off, none⟩ ∧ b < w.heap.size ∧ S b ∧ w.cell? ⟨b, off + k, none⟩ = some (xs[k]'h)
/-- .. whose items have some cells each -/
def RdRows (w : World) (v : Value) (sz : Nat) (xs : List (List Value)) (S : Nat → Prop) : Prop :=
  ∃ A c, v = .slice A xs.length c ∧ ∀ k (h : k < xs.length), ∃ b off, A = some ⟨b, off, none⟩ ∧ b < w.heap.size ∧ S b ∧ ∀ j u, (xs[k]'h)[j]? = some u → w.cell? ⟨b, off + k * sz + j, none⟩ = some u
theorem cell_of_heap {W W' : World} {b : Nat} (h : W'.heap[b]? = W.heap[b]?) (off : Nat) : W'.cell? ⟨b, off, none⟩ = W.cell? ⟨b, off, none⟩ := by
  unfold World.cell?
  rw [h]
theorem RdIn.kept {W W' : World} {v : Value} {xs : List Value} {S : Nat → Prop} (h : RdIn W v xs S) (hs : W.heap.size ≤ W'.heap.size) (hb : ∀ b, b < W.heap.size → S b → W'.heap[b]? = W.heap[b]?) : RdIn W' v xs S := by
  obtain ⟨A, c, rfl, r⟩ := h
  refine ⟨A, c, rfl, fun k hk => ?_⟩
  obtain ⟨b, off, h1, h2, h3, h4⟩ := r k hk
  exact ⟨b, off, h1, Nat.lt_of_lt_of_le h2 hs, h3, (cell_of_heap (hb b h2 h3) _).trans h4⟩
theorem RdIn.below {W W' : World} {v : Value} {xs : List Value} {S : Nat → Prop} {B : Nat} (h : RdIn W v xs S) (hb : Below B W W') (hS : ∀ b, S b → b < B) : RdIn W' v xs S :=
  h.kept hb.size fun b _ hs => hb.block b (hS b hs)
theorem RdIn.mono {W : World} {v : Value} {xs : List Value} {S T : Nat → Prop} (h : RdIn W v xs S) (hST : ∀ b, b < W.heap.size → S b → T b) : RdIn W v xs T := by
  obtain ⟨A, c, rfl, r⟩ := h
  refine ⟨A, c, rfl, fun k hk => ?_⟩
  obtain ⟨b, off, h1, h2, h3, h4⟩ := r k hk
  exact ⟨b, off, h1, h2, hST b h2 h3, h4⟩
theorem RdIn.of_own {w : World} {base n : Nat} {e : TypeId} {v : Value} {xs : List Value} (h : w.ownsRow base e 1 v n xs) : RdIn w v xs (fun b => base ≤ b) := by
  have hl : xs.length = n := by have := h.1; simpa using this
  rcases h.2 with ⟨rfl, rfl⟩ | ⟨g, cap, cur, rfl, hbase, hg, _, _, _, ht⟩
  · exact ⟨none, 0, by rw [hl], fun k hk => by omega⟩
  · refine ⟨_, cap, by rw [hl], fun k hk => ⟨g, 0, rfl, block_lt hg, hbase, ?_⟩⟩
    rw [cell_of_row w g (0 + k) cur e (0, 0) hg, Nat.zero_add]
    have : (List.take (n * 1) cur.toList)[k]? = xs[k]? := by rw [ht]
    rw [List.getElem?_take_of_lt (by omega)] at this
    rw [← Array.getElem?_toList, this]
    simp [List.getElem?_eq_getElem hk]
theorem RdIn.nil (w : World) (S : Nat → Prop) : RdIn w (.slice none 0 0) [] S := ⟨none, 0, rfl, fun k hk => absurd hk (Nat.not_lt_zero k)⟩
theorem RdIn.one (w : World) (v : Value) (t : TypeId) (S : Nat → Prop) (hS : S w.heap.size) : RdIn (w.alloc (.cells #[v] t)) (.slice (some ⟨w.heap.size, 0, none⟩) 1 1) [v] S := by
  refine ⟨_, 1, rfl, fun k hk => ⟨w.heap.size, 0, rfl, by simp, hS, ?_⟩⟩
  obtain rfl : k = 0 := by simpa using hk
  rw [cell_of_row _ _ _ _ _ _ (heap_alloc_new w _)]
  rfl
theorem RdRows.below {W W' : World} {v : Value} {sz : Nat} {xs : List (List Value)} {S : Nat → Prop} {B : Nat} (h : RdRows W v sz xs S) (hb : Below B W W') (hS : ∀ b, S b → b < B) : RdRows W' v sz xs S := by
  obtain ⟨A, c, rfl, r⟩ := h
  refine ⟨A, c, rfl, fun k hk => ?_⟩
  obtain ⟨b, off, h1, h2, h3, h4⟩ := r k hk
  exact ⟨b, off, h1, Nat.lt_of_lt_of_le h2 hb.size, h3, fun j u hj => (cell_of_heap (hb.block b (hS b h3)) _).trans (h4 j u hj)⟩
theorem RdRows.kept {W W' : World} {v : Value} {sz : Nat} {xs : List (List Value)} {S : Nat → Prop} (h : RdRows W v sz xs S) (hs : W.heap.size ≤ W'.heap.size) (hb : ∀ b, b < W.heap.size → S b → W'.heap[b]? = W.heap[b]?) : RdRows W' v sz xs S := by
  obtain ⟨A, c, rfl, r⟩ := h
  refine ⟨A, c, rfl, fun k hk => ?_⟩
  obtain ⟨b, off, h1, h2, h3, h4⟩ := r k hk
  exact ⟨b, off, h1, Nat.lt_of_lt_of_le h2 hs, h3, fun j u hj => (cell_of_heap (hb b h2 h3) _).trans (h4 j u hj)⟩
theorem RdRows.mono {W : World} {v : Value} {sz : Nat} {xs : List (List Value)} {S T : Nat → Prop} (h : RdRows W v sz xs S) (hST : ∀ b, b < W.heap.size → S b → T b) : RdRows W v sz xs T := by
  obtain ⟨A, c, rfl, r⟩ := h
  refine ⟨A, c, rfl, fun k hk => ?_⟩
  obtain ⟨b, off, h1, h2, h3, h4⟩ := r k hk
  exact ⟨b, off, h1, h2, hST b h2 h3, h4⟩
/-- a slice's rows by their items -/
theorem RdRows.at {W : World} {q : Option Addr} {n c sz : Nat} {xs : List (List Value)} {S : Nat → Prop} (h : RdRows W (.slice q n c) sz xs S) (k : Nat) (hk : k < xs.length) : ∃ b off, q = some ⟨b, off, none⟩ ∧ b < W.heap.size ∧ S b ∧ ∀ j u, (xs[k]'hk)[j]? = some u → W.cell? ⟨b, off + k * sz + j, none⟩ = some u := by
  obtain ⟨A, c', e, r⟩ := h
  injection e with e1 e2 e3
  subst e1
  exact r k hk
theorem RdIn.at {W : World} {q : Option Addr} {n c : Nat} {xs : List Value} {S : Nat → Prop} (h : RdIn W (.slice q n c) xs S) (k : Nat) (hk : k < xs.length) : ∃ b off, q = some ⟨b, off, none⟩ ∧ b < W.heap.size ∧ S b ∧ W.cell? ⟨b, off + k, none⟩ = some (xs[k]'hk) := by
  obtain ⟨A, c', e, r⟩ := h
  injection e with e1 e2 e3
  subst e1
  exact r k hk
theorem RdRows.nil (w : World) (sz : Nat) (S : Nat → Prop) : RdRows w (.slice none 0 0) sz [] S := ⟨none, 0, rfl, fun k hk => absurd hk (Nat.not_lt_zero k)⟩
theorem rd_block_of_cell {w : World} {p : Addr} {v : Value} (h : w.cell? p = some v) : p.block < w.heap.size := by
  unfold World.cell? at h
  split at h
  · rename_i hb
    exact block_lt hb
  · cases h
theorem rd_spot_none {w : World} {a : Addr} {v : Value} (h : w.cell? a = some v) : a = ⟨a.block, a.off, none⟩ := by
  unfold World.cell? at h
  split at h
  · cases a with
    | mk b o s =>
      cases s with
      | none => rfl
      | some s => simp at h
  · cases h
theorem rd_take_at {cs : List Value} {i : Nat} (h : i < cs.length) : (cs.drop i).take 1 = [cs[i]'h] := by
  rw [List.drop_eq_getElem_cons h, List.take_succ_cons, List.take_zero]
section
variable {H : Type} {enc : TypeId × Value → H} {w : World} {base : Nat} {sp : Nat → Bool} {held : Bool}
theorem rd_int {fuel : Nat} {c : Value} {y : DataW H × List MemPlace} (h : DataW.trod enc Tryd.prog w base sp held fuel 3 [c] = some y) : ∃ n : Int, c = .int .i64 n ∧ y = (.lit (.int .i64 n), []) ∧ -9223372036854775808 ≤ n ∧ n ≤ 9223372036854775807 := by
  cases fuel with
  | zero => simp [DataW.trod] at h
  | succ fuel =>
    cases c <;> simp [DataW.trod, Tryd.underlying3] at h
    rename_i k' n
    obtain ⟨⟨rfl, hw⟩, rfl⟩ := h
    have hw0 : IntKind.i64.min ≤ n ∧ n ≤ IntKind.i64.max := by simpa [Lit.wf] using hw
    have h1 : IntKind.i64.min = -9223372036854775808 := by decide
    have h2 : IntKind.i64.max = 9223372036854775807 := by decide
    exact ⟨n, rfl, rfl, by omega, by omega⟩
theorem rd_str {fuel : Nat} {c : Value} {y : DataW H × List MemPlace} (h : DataW.trod enc Tryd.prog w base sp held fuel 9 [c] = some y) : ∃ s, c = .string s ∧ y = (.lit (.string s.data.toList), []) := by
  cases fuel with
  | zero => simp [DataW.trod] at h
  | succ fuel =>
    cases c <;> simp [DataW.trod, Tryd.underlying9] at h
    rename_i s
    exact ⟨s, rfl, h.2.symm⟩
theorem rd_bool {fuel : Nat} {c : Value} {y : DataW H × List MemPlace} (h : DataW.trod enc Tryd.prog w base sp held fuel 4 [c] = some y) : ∃ b, c = .bool b ∧ y = (.lit (.bool b), []) := by
  cases fuel with
  | zero => simp [DataW.trod] at h
  | succ fuel =>
    cases c <;> simp [DataW.trod, Tryd.underlying4] at h
    rename_i b
    exact ⟨b, rfl, h.symm⟩
theorem rd_struct {P : Program} {t : TypeId} {fs : Array Field} {fuel : Nat} {cs : List Value} {y : DataW H × List MemPlace} (ht : P.underlying t = some (.struct fs)) (h : DataW.trod enc P w base sp held fuel t cs = some y) :
    ∃ (n : Nat) (xs : List (DataW H × List MemPlace)), cs.length = P.cellsOf t ∧ xs.length = fs.size ∧ y = (.agg (xs.map (·.1)), xs.flatMap (·.2)) ∧ ∀ (i : Nat) (f : Field), fs.toList[i]? = some f → DataW.trod enc P w base sp held n f.type ((cs.drop f.offset).take (P.cellsOf f.type)) = xs[i]? := by
  cases fuel with
  | zero => simp [DataW.trod] at h
  | succ fuel =>
    simp only [DataW.trod, ht] at h
    split at h
    · rename_i hl
      rw [Option.map_eq_some_iff] at h
      obtain ⟨xs, hx, rfl⟩ := h
      exact ⟨fuel, xs, hl, by rw [mapM_some_length hx, Array.length_toList], rfl, fun i f hf => mapM_some_get hx i f hf⟩
    · cases h
/-- a slice of one's cells each -/
theorem rd_slice1 {P : Program} {t e : TypeId} {α : Type} [Inhabited α] {cell : α → Value} {R : DataW H → α → Prop} {fuel : Nat} {v : Value} {x : DataW H × List MemPlace} (ht : P.underlying t = some (.slice e)) (hc : P.cellsOf e = 1)
    (he : ∀ n c y, DataW.trod enc P w 0 sp held n e [c] = some y → ∃ a : α, c = cell a ∧ R y.1 a) (h : DataW.trod enc P w 0 sp held fuel t [v] = some x) :
    (v = .slice none 0 0 ∧ x.1 = .nil) ∨ ∃ (as_ : List α) (es rest : List (DataW H)), RdIn w v (as_.map cell) (fun b => b < w.heap.size) ∧ x.1 = .slice es rest ∧ ∀ a ∈ as_, ∃ d ∈ es, R d a := by
  rcases Go.Deep.open_slice1 ht hc h with ⟨h1, h2⟩ | ⟨a, len, cap, m, n, V, D, Pl, h1, _, hlc, _, hm, hx, hall⟩
  · exact .inl ⟨by simpa using h1, by rw [h2]⟩
  · right
    obtain rfl : v = .slice (some a) len cap := by simpa using h1
    have hlm : len ≤ m := by rw [hm]; split <;> omega
    obtain ⟨f, hf⟩ := Go.Deep.choose_lt (n := len) (α := α) (p := fun i y => w.cell? (a.add i) = some (cell y) ∧ R (D i) y) (fun i hi => by
      obtain ⟨h3, h4⟩ := hall i (by omega)
      obtain ⟨y, hy, hR⟩ := he _ _ _ h4
      exact ⟨y, by rw [h3, hy], hR⟩)
    refine ⟨(List.range len).map f, (List.range len).map D, (List.range (m - len)).map (fun j => D (len + j)), ⟨some a, cap, by rw [List.length_map, List.length_map, List.length_range], fun k hk => ?_⟩, by rw [hx], ?_⟩
    · have hk2 : k < len := by simpa using hk
      have h0 := (hf 0 (by omega)).1
      rw [show a.add 0 = a by simp [Addr.add]] at h0
      have ha := rd_spot_none h0
      refine ⟨a.block, a.off, by rw [← ha], rd_block_of_cell h0, rd_block_of_cell h0, ?_⟩
      have h3 := (hf k hk2).1
      rw [ha] at h3
      rw [List.getElem_map, List.getElem_map, List.getElem_range]
      simp only [Addr.add_mid] at h3
      exact h3
    · intro y hy
      obtain ⟨i, hi, rfl⟩ := List.mem_map.1 hy
      exact ⟨D i, List.mem_map.2 ⟨i, hi, rfl⟩, (hf i (List.mem_range.1 hi)).2⟩
theorem rd_slice {P : Program} {t e : TypeId} {α : Type} [Inhabited α] {cells : α → List Value} {R : DataW H → α → Prop} {sz fuel : Nat} {v : Value} {x : DataW H × List MemPlace} (ht : P.underlying t = some (.slice e)) (hc : P.cellsOf e = sz) (hsz : 0 < sz) (hcl : ∀ a, (cells a).length = sz)
    (he : ∀ n cs y, DataW.trod enc P w 0 sp held n e cs = some y → ∃ a : α, cs = cells a ∧ R y.1 a) (h : DataW.trod enc P w 0 sp held fuel t [v] = some x) :
    (v = .slice none 0 0 ∧ x.1 = .nil) ∨ ∃ (as_ : List α) (es rest : List (DataW H)), RdRows w v sz (as_.map cells) (fun b => b < w.heap.size) ∧ x.1 = .slice es rest ∧ ∀ a ∈ as_, ∃ d ∈ es, R d a := by
  rcases Go.Deep.open_slice ht h with ⟨h1, h2⟩ | ⟨a, len, cap, m, n, D, Pl, h1, _, hlc, _, hm, hx, hall⟩
  · exact .inl ⟨by simpa using h1, by rw [h2]⟩
  · right
    rw [hc] at hall
    obtain rfl : v = .slice (some a) len cap := by simpa using h1
    have hlm : len ≤ m := by rw [hm]; split <;> omega
    obtain ⟨f, hf⟩ := Go.Deep.choose_lt (n := len) (α := α) (p := fun i y => w.cells? 0 (a.add (i * sz)) sz = some (cells y) ∧ R (D i) y) (fun i hi => by
      obtain ⟨cs', h3, h4⟩ := hall i (by omega)
      obtain ⟨y, hy, hR⟩ := he _ _ _ h4
      exact ⟨y, by rw [h3, hy], hR⟩)
    refine ⟨(List.range len).map f, (List.range len).map D, (List.range (m - len)).map (fun j => D (len + j)), ⟨some a, cap, by rw [List.length_map, List.length_map, List.length_range], fun k hk => ?_⟩, by rw [hx], ?_⟩
    · have hk2 : k < len := by simpa using hk
      have hp := hf 0 (by omega)
      obtain ⟨_, hlen, hcell⟩ := World.cells?_some hp.1
      have hc0 := hcell 0 (by omega)
      rw [Nat.zero_mul, show (a.add 0).add 0 = a by simp [Addr.add]] at hc0
      rw [List.getElem?_eq_getElem (by rw [hcl]; exact hsz)] at hc0
      have ha := rd_spot_none hc0
      refine ⟨a.block, a.off, by rw [← ha], rd_block_of_cell hc0, rd_block_of_cell hc0, fun j u hj => ?_⟩
      obtain ⟨_, hlen2, hcell2⟩ := World.cells?_some (hf k hk2).1
      rw [List.getElem_map, List.getElem_map, List.getElem_range] at hj
      have hjs : j < sz := by
        rcases Nat.lt_or_ge j sz with h5 | h5
        · exact h5
        · rw [List.getElem?_eq_none (by rw [hcl]; exact h5)] at hj; cases hj
      have h6 := hcell2 j hjs
      rw [hj, ha] at h6
      simp only [Addr.add_mid] at h6
      exact h6
    · intro y hy
      obtain ⟨i, hi, rfl⟩ := List.mem_map.1 hy
      exact ⟨D i, List.mem_map.2 ⟨i, hi, rfl⟩, (hf i (List.mem_range.1 hi)).2⟩
end
theorem rd_all {H : Type} {P : Program} {e : TypeId} : ∀ {l : List (DataW H)} {d : DataW H}, d ∈ l → ∀ n ∈ d.weights P e, n ∈ DataW.weightsAll P e l
  | [], _, h, _, _ => by cases h
  | x :: xs, d, h, n, hn => by
    simp only [DataW.weightsAll, List.mem_append]
    rcases List.mem_cons.1 h with rfl | h
    · exact .inl hn
    · exact .inr (rd_all h n hn)
/-- a slice's item weighs no more than the slice -/
theorem rd_weights {H : Type} {P : Program} {t e : TypeId} {es rest : List (DataW H)} {d : DataW H} (ht : P.underlying t = some (.slice e)) (hd : d ∈ es) {n : Nat} (hn : n ∈ d.weights P e) : n ∈ (DataW.slice es rest).weights P t := by
  rw [DataW.weights, ht]
  exact List.mem_cons_of_mem _ (List.mem_append_left _ (rd_all hd n hn))
/-- a struct's field weighs no more than the struct -/
theorem rd_field {H : Type} {P : Program} {t : TypeId} {fs : Array Field} {ad : List (DataW H)} (ht : P.underlying t = some (.struct fs)) {j : Nat} {f : Field} {d : DataW H} (hf : fs.toList[j]? = some f) (hd : ad[j]? = some d) {n : Nat} (hn : n ∈ d.weights P f.type) : n ∈ (DataW.agg ad).weights P t := by
  rw [DataW.weights, ht]
  exact DataW.weights_mem_each (j := j) (t := f.type) (by rw [List.getElem?_map, hf]; rfl) hd n hn
theorem rd_str_w {H : Type} (l : List UInt8) : l.length ∈ (DataW.lit (H := H) (.string l)).weights Tryd.prog 9 := by
  rw [DataW.weights]
  exact List.mem_singleton.2 rfl
end Go.Proofs.YtbeooeihedhabaaDoor
