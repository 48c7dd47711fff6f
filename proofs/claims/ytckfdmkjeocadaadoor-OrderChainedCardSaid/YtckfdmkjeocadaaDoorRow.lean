/- Rows that are stored into whole; loads and stores of arrays; the world behind it by what has turned. -/
import Derived.Test.YtckfdmkjeocadaaDoorCopy
import Derived.ChangeKeysEq
namespace Go.Proofs.YtckfdmkjeocadaaDoor
open Go.RowKit
/-- w' is w but for block b, which holds o -/
structure Upd (w w' : World) (b : Nat) (o : Obj) : Prop where
  os : w'.os = w.os
  tape : w'.tape = w.tape
  output : w'.output = w.output
  size : w'.heap.size = w.heap.size
  at_ : w'.heap[b]? = some o
  other : ∀ k, k ≠ b → w'.heap[k]? = w.heap[k]?
theorem Upd.below {w w' w0 : World} {b B : Nat} {o : Obj} (h : Upd w w' b o) (hb : Below B w0 w) (hB : B ≤ b) : Below B w0 w' :=
  hb.trans ⟨h.os, h.tape, h.output, by rw [h.size]; exact Nat.le_refl _, fun k hk => h.other k (by omega)⟩
theorem setCells_size : ∀ (vs : List Value) (o b : Nat) (w : World), (w.setCells b o vs).heap.size = w.heap.size
  | [], _, _, _ => rfl
  | v :: vs, o, b, w => (setCells_size vs (o + 1) b _).trans (by simp [World.setCell])
theorem setCells_os : ∀ (vs : List Value) (o b : Nat) (w : World), (w.setCells b o vs).os = w.os ∧ (w.setCells b o vs).tape = w.tape ∧ (w.setCells b o vs).output = w.output
  | [], _, _, _ => ⟨rfl, rfl, rfl⟩
  | v :: vs, o, b, w => setCells_os vs (o + 1) b (w.setCell ⟨b, o, none⟩ v)
theorem upd_setCells {w : World} {b o : Nat} {cur vs : List Value} {t : TypeId} (h : w.heap[b]? = some (.cells cur.toArray t (0, 0))) (hl : o + vs.length ≤ cur.length) :
    Upd w (w.setCells b o vs) b (.cells (splice cur o vs).toArray t (0, 0)) :=
  ⟨(setCells_os vs o b w).1, (setCells_os vs o b w).2.1, (setCells_os vs o b w).2.2, setCells_size vs o b w, heap_setCells_row vs cur o w h hl, fun _k hk => heap_setCells_other vs o w hk⟩
section
variable {P : Program} {ops : Array Oper} {rest : List Oper} {o : Oper} {a : Act} {w : World} {Q : Exit → Act → World → Prop}
/-- an array goes into cells of a block, from offset f on -/
theorem wpList_store_rows (hgd : o.guard = none) (ty : TypeId) (x y : Operand) (ho : o.op = .store ty x y) (b f : Nat) (cells cur : List Value) (t : TypeId)
    (hx : a.eval x = .pointer (some ⟨b, f, none⟩)) (hy : a.eval y = .agg cells.toArray) (hg : w.heap[b]? = some (.cells cur.toArray t (0, 0))) (hl : f + cells.length ≤ cur.length)
    (hi : (P.info? ty).map (·.size) = some cells.length) (h1 : ∀ v ∈ cells, v.oneCell' = true)
    (h : ∀ w', Hid (Upd w w' b (.cells (splice cur f cells).toArray t (0, 0))) → wpList P ops Q rest (a.put o.dst undef) w') : wpList P ops Q (o :: rest) a w :=
  wpList_store_mid hgd ty x y ho b f cells.toArray hx hy (there_row hg (by simpa using hl)) (by simpa using hi) (all_oneCell_toArray h1)
    (h _ (show Upd _ _ _ _ from upd_setCells hg hl))
/-- a load under a guard that says yes -/
theorem wpList_load_rows_g (hw : Region.wanted o (yielded ops a.tmps) = true) (ty : TypeId) (x : Operand) (ho : o.op = .load ty x) (b f : Nat) (cs cur : List Value) (t : TypeId) (fr : Nat × Nat) (d : TypeDesc)
    (hx : a.eval x = .pointer (some ⟨b, f, none⟩)) (hg : w.heap[b]? = some (.cells cur.toArray t fr)) (hc : ∀ j v, cs[j]? = some v → cur[f + j]? = some v)
    (hu : P.underlying ty = some d) (hd : d.isRow = true) (hi : (P.info? ty).map (·.size) = some cs.length)
    (h : wpList P ops Q rest (a.put o.dst (.agg cs.toArray)) w) : wpList P ops Q (o :: rest) a w :=
  wpList_step fun K hK => by
    rw [if_pos hw]
    exact wp_load_mid ty x ho b f hx cs d (range_row hg hc) hu hd hi (hK _ _ h)
/-- .. the whole block -/
theorem wpList_store_whole (hgd : o.guard = none) (ty : TypeId) (x y : Operand) (ho : o.op = .store ty x y) (b : Nat) (cells cur : List Value) (t : TypeId)
    (hx : a.eval x = .pointer (some ⟨b, 0, none⟩)) (hy : a.eval y = .agg cells.toArray) (hg : w.heap[b]? = some (.cells cur.toArray t (0, 0))) (hl : cells.length = cur.length)
    (hi : (P.info? ty).map (·.size) = some cells.length) (h1 : ∀ v ∈ cells, v.oneCell' = true)
    (h : ∀ w', Hid (Upd w w' b (.cells cells.toArray t (0, 0))) → wpList P ops Q rest (a.put o.dst undef) w') : wpList P ops Q (o :: rest) a w :=
  wpList_store_rows hgd ty x y ho b 0 cells cur t hx hy hg (by omega) hi h1 (by rw [splice_all _ _ hl]; exact h)
/-- an array is loaded out of a block that is known -/
theorem wpList_load_rows (hgd : o.guard = none) (ty : TypeId) (x : Operand) (ho : o.op = .load ty x) (b f : Nat) (cs cur : List Value) (t : TypeId) (fr : Nat × Nat) (d : TypeDesc)
    (hx : a.eval x = .pointer (some ⟨b, f, none⟩)) (hg : w.heap[b]? = some (.cells cur.toArray t fr)) (hc : ∀ j v, cs[j]? = some v → cur[f + j]? = some v)
    (hu : P.underlying ty = some d) (hd : d.isRow = true) (hi : (P.info? ty).map (·.size) = some cs.length)
    (h : wpList P ops Q rest (a.put o.dst (.agg cs.toArray)) w) : wpList P ops Q (o :: rest) a w :=
  wpList_load_mid hgd ty x ho b f hx cs d (range_row hg hc) hu hd hi h
end
theorem results_cell_tmp {P : Program} {fn : Func} {p t : Tmp} {ty : TypeId} (h : fn.results = #[.cell p ty, .tmp t]) (tmps : Array Value) (w : World) (g : Nat) (T : TypeId) (cs : List Value) (fr : Nat × Nat) (d : TypeDesc)
    (hp : tmps.getD p undef = .pointer (some ⟨g, 0, none⟩)) (hg : w.heap[g]? = some (.cells cs.toArray T fr))
    (hu : P.underlying ty = some d) (hd : d.isRow = true) (hi : (P.info? ty).map (·.size) = some cs.length) :
    (results fn tmps).run P w = .ok (.tuple #[.agg cs.toArray, tmps.getD t undef]) w := by
  have hp' : tmps[p]?.getD undef = .pointer (some ⟨g, 0, none⟩) := by simpa using hp
  have hl := run_loadVar_row (P := P) w g T ty cs.toArray fr d hg hu (by cases d <;> simp_all) (by simpa using hi)
  simp [results, h, hp', asAddr, hl]
/-- the end of a function with an array and a plain value as results -/
theorem post_cell_tmp {P : Program} {R : Ending → World → Prop} {fn : Func} {a : Act} {w : World} (p t : Tmp) (ty : TypeId) (h : fn.results = #[.cell p ty, .tmp t]) (g : Nat) (T : TypeId) (cs : List Value) (fr : Nat × Nat) (d : TypeDesc)
    (hg : w.heap[g]? = some (.cells cs.toArray T fr)) (hu : P.underlying ty = some d) (hd : d.isRow = true) (hi : (P.info? ty).map (·.size) = some cs.length) (v : Value)
    (hp : a.tmps.getD p undef = .pointer (some ⟨g, 0, none⟩)) (hv : a.tmps.getD t undef = v) (hdf : a.defers = []) (hR : R (.returned (.tuple #[.agg cs.toArray, v])) w) : bodyPost P fn R .ret a w := by
  subst hv
  exact bodyPost_ret (results_cell_tmp h a.tmps w g T cs fr d hp hg hu hd hi) hdf hR
theorem post_cell {P : Program} {R : Ending → World → Prop} {fn : Func} {a : Act} {w : World} (p : Tmp) (ty : TypeId) (h : fn.results = #[.cell p ty]) (g : Nat) (T : TypeId) (cs : List Value) (fr : Nat × Nat) (d : TypeDesc)
    (hg : w.heap[g]? = some (.cells cs.toArray T fr)) (hu : P.underlying ty = some d) (hd : d.isRow = true) (hi : (P.info? ty).map (·.size) = some cs.length)
    (hp : a.tmps.getD p undef = .pointer (some ⟨g, 0, none⟩)) (hdf : a.defers = []) (hR : R (.returned (.agg cs.toArray)) w) : bodyPost P fn R .ret a w :=
  bodyPost_ret (results_cell_row h a.tmps w g T cs.toArray fr d hp hg hu (by cases d <;> simp_all) (by simpa using hi)) hdf hR
theorem run_part_u8 {P : Program} {e : TypeId} {i : TypeInfo} (hi : P.info? e = some i) (hs : i.size = 1) (he : P.underlying e = some (.int .u8)) (a : List UInt8) (k : Nat) (hk : k < a.length) (w : World) :
    (part e (u8s a).toArray k).run P w = .ok (.int .u8 (a[k]'hk).toNat) w := by
  have := u8s_get a k hk
  simp [part, isAgg, run_underlying he, sizeOf, typeInfo, hi, hs, this]
theorem run_eqItems_u8 {P : Program} {e : TypeId} {i : TypeInfo} (hi : P.info? e = some i) (hs : i.size = 1) (he : P.underlying e = some (.int .u8)) (hc : P.cellsOf e = 1) (d : Nat) (a b : List UInt8) (hl : a.length = b.length) (w : World) :
    ∀ m k, k + m = a.length → (Op.eqItems (d + 1) e (P.cellsOf e) (u8s a).toArray (u8s b).toArray (List.range' k m)).run P w = .ok (decide (a.drop k = b.drop k)) w
  | 0, k, h => by
    rw [List.drop_of_length_le (by omega), List.drop_of_length_le (by omega)]
    simp [Op.eqItems]
  | m + 1, k, h => by
    have ih := run_eqItems_u8 hi hs he hc d a b hl w m (k + 1) (by omega)
    rw [List.range'_succ]
    rw [List.drop_eq_getElem_cons (show k < a.length by omega), List.drop_eq_getElem_cons (show k < b.length by omega)]
    have e1 := run_part_u8 hi hs he a k (by omega) w
    have e2 := run_part_u8 hi hs he b k (by omega) w
    rw [hc] at ih ⊢
    simp only [Op.eqItems, Sem.run_bind, Nat.mul_one, e1, e2, Result.andThen_ok]
    simp only [Op.equalIn, Sem.run_bind, run_underlying he, Result.andThen_ok, if_true, Sem.run_pure]
    by_cases hx : a[k]'(by omega) = b[k]'(by omega)
    · rw [hx]
      simp only [beq_self_eq_true, Bool.not_true, Bool.false_eq_true, if_false, ih, List.cons.injEq, true_and]
    · have hx2 : (((a[k]'(by omega)).toNat : Int) == ((b[k]'(by omega)).toNat : Int)) = false := by
        rw [beq_eq_false_iff_ne]
        intro h
        exact hx (UInt8.toNat_inj.1 (by omega))
      rw [hx2]
      simp only [Bool.not_false, if_true, Sem.run_pure, List.cons.injEq, hx, false_and, decide_false]
theorem run_equal_u8s {P : Program} {t e : TypeId} {n : Nat} {i : TypeInfo} (hu : P.underlying t = some (.array n e)) (hi : P.info? e = some i) (hs : i.size = 1) (he : P.underlying e = some (.int .u8)) (hc : P.cellsOf e = 1) (d : Nat)
    (a b : List UInt8) (ha : a.length = n) (hb : b.length = n) (w : World) : (Op.equalIn (d + 2) t (.agg (u8s a).toArray) (.agg (u8s b).toArray)).run P w = .ok (decide (a = b)) w := by
  rw [run_equalIn_array w (d + 1) _ _ hu hi, List.range_eq_range', run_eqItems_u8 hi hs he hc d a b (by omega) w n 0 (by omega)]
  rfl
def hv (h : List UInt8) : Value := .agg (u8s h).toArray
def z32 : List UInt8 := List.replicate 32 0
/-- 32 zeros, written out -/
abbrev zl32 : List Value := [.int .u8 0, .int .u8 0, .int .u8 0, .int .u8 0, .int .u8 0, .int .u8 0, .int .u8 0, .int .u8 0, .int .u8 0, .int .u8 0, .int .u8 0, .int .u8 0, .int .u8 0, .int .u8 0, .int .u8 0, .int .u8 0, .int .u8 0, .int .u8 0, .int .u8 0, .int .u8 0, .int .u8 0, .int .u8 0, .int .u8 0, .int .u8 0, .int .u8 0, .int .u8 0, .int .u8 0, .int .u8 0, .int .u8 0, .int .u8 0, .int .u8 0, .int .u8 0]
theorem zl32_eq : zl32 = u8s z32 := rfl
theorem zl32_length : zl32.length = 32 := rfl
theorem zl32_one : ∀ v ∈ zl32, v.oneCell' = true := by rw [zl32_eq]; exact u8s_one _
theorem z32_length : z32.length = 32 := List.length_replicate ..
end Go.Proofs.YtckfdmkjeocadaaDoor
