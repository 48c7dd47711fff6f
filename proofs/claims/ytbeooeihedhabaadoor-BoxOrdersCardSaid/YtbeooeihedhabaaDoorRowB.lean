/- copy out of a string into a row, the world behind it written out. Rows that are stored into whole; loads and stores of arrays; the world behind it by what has turned. Structs with arrays in them, built and compared. -/
import Derived.Test.YtbeooeihedhabaaDoorBase
import Derived.Deep.MidRow
import Derived.ChangeKeysEq
namespace Go.Proofs.YtbeooeihedhabaaDoor
open Go.RowKit
theorem setRow_self {w : World} {g : Nat} {cs : Array Value} {t : TypeId} {fr : Nat × Nat} (h : w.heap[g]? = some (.cells cs t fr)) : w.setRow g cs = w := by
  have hh : (w.setRow g cs).heap = w.heap := by
    apply Array.ext_getElem?
    intro i
    by_cases hi : i = g
    · subst hi
      rw [setRow_heap w i _ cs t fr h, h]
    · rw [setRow_other w g i cs hi]
  show { w with heap := (w.setRow g cs).heap } = w
  rw [hh]
theorem run_copy_str {P : Program} (w : World) (dT sT ty elem : TypeId) (g o dLen dCap : Nat) (dp : Option Addr) (s : ByteArray) (cur : List Value) (t : TypeId)
    (hu : P.underlying dT = some (.slice elem)) (hs : (P.info? elem).map (·.size) = some 1) (hg : w.heap[g]? = some (.cells cur.toArray t (0, 0))) (hle : s.size ≤ dLen) (hfit : o + s.size ≤ cur.length)
    (hpos : 0 < s.size → dp = some ⟨g, o, none⟩) :
    (Builtin.copy_ #[dT, sT] ty #[.slice dp dLen dCap, .string s]).run P w = .ok (goInt s.size) (w.setRow g (splice cur o (u8s s.data.toList)).toArray) := by
  by_cases h0 : s.size = 0
  · have hd0 : s.data.toList = [] := by
      have : s.data.size = 0 := h0
      exact List.eq_nil_of_length_eq_zero (by rw [Array.length_toList]; exact this)
    rw [Lib.run_copy_empty_string (P := P) w dT sT ty elem dp dLen dCap s hu (by cases hq : P.info? elem <;> simp [hq] at hs ⊢) h0, h0]
    have : splice cur o (u8s s.data.toList) = cur := by rw [hd0]; simp [splice, u8s]
    rw [this, setRow_self hg]
    rfl
  · obtain rfl := hpos (by omega)
    rw [Lib.run_copy_row_string (P := P) w dT sT ty elem g o dLen dCap s cur.toArray t hu hs hg hle (by simpa using hfit)]
    congr 3
    unfold splice
    rw [u8s_length]
    simp [Lib.byteCells, u8s]
theorem step_copy_str {P : Program} {w : World} {ops : Array Oper} {o : Oper} {a : Act} {K : Act → World → Prop} {Q : Exit → Act → World → Prop} {E : Prop} (hgd : o.guard = none) (d s : Operand) (dT sT : TypeId)
    (ho : o.op = .call { callee := .builtin .copy, args := #[d, s], argTypes := #[dT, sT] }) (elem : TypeId) (hu : P.underlying dT = some (.slice elem)) (hsz : (P.info? elem).map (·.size) = some 1)
    (dp : Option Addr) (dLen dCap : Nat) (str : ByteArray) (hd : a.eval d = .slice dp dLen dCap) (hs : a.eval s = .string str)
    (g off : Nat) (cur : List Value) (t : TypeId) (hg : w.heap[g]? = some (.cells cur.toArray t (0, 0))) (hn : str.size ≤ dLen)
    (hpos : 0 < str.size → dp = some ⟨g, off, none⟩) (hfit : off + str.size ≤ cur.length)
    (hK : K (a.put o.dst (goInt str.size)) (w.setRow g (splice cur off (u8s str.data.toList)).toArray)) :
    if Region.wanted o (yielded ops a.tmps) = true then Oper.wp P o a w K Q else E := by
  have hw : Region.wanted o (yielded ops a.tmps) = true := by simp [Region.wanted, hgd]
  rw [if_pos hw]
  have hrun := run_copy_str (P := P) w dT sT o.type elem g off dLen dCap dp str cur t hu hsz hg hn hfit hpos
  unfold Oper.wp
  simp [execOp, ho, resolve, invoke, builtin, hd, hs, hrun, Result.andThen]
  exact hK
theorem splice_cons {α : Type} (L : List α) (o : Nat) (v : α) (vs : List α) (h : o < L.length) : splice (L.set o v) (o + 1) vs = splice L o (v :: vs) := by
  unfold splice
  rw [List.take_succ_eq_append_getElem (by simpa using h), List.getElem_set_self, List.append_assoc]
  congr 1
  · rw [List.take_set_of_le (Nat.le_refl _)]
  · simp only [List.cons_append, List.length_cons]
    rw [List.drop_set_of_lt (by omega), show o + 1 + vs.length = o + (vs.length + 1) by omega, List.nil_append]
theorem heap_setCells_row : ∀ (vs cur : List Value) (o : Nat) (w : World) {b : Nat} {t : TypeId}, w.heap[b]? = some (.cells cur.toArray t (0, 0)) → o + vs.length ≤ cur.length →
    (w.setCells b o vs).heap[b]? = some (.cells (splice cur o vs).toArray t (0, 0))
  | [], cur, o, w, b, t, h, _ => by
    have : splice cur o [] = cur := by simp [splice]
    rw [this]; exact h
  | v :: vs, cur, o, w, b, t, h, hl => by
    have h1 := heap_setCell_same w b o _ _ v h
    rw [List.setIfInBounds_toArray] at h1
    have h2 := heap_setCells_row vs (cur.set o v) (o + 1) (w.setCell ⟨b, o, none⟩ v) h1 (by simp at hl ⊢; omega)
    rw [splice_cons _ _ _ _ (by simp at hl; omega)] at h2
    exact h2
theorem heap_setCells_other : ∀ (vs : List Value) (o : Nat) (w : World) {b k : Nat}, k ≠ b → (w.setCells b o vs).heap[k]? = w.heap[k]?
  | [], _, _, _, _, _ => rfl
  | v :: vs, o, w, b, k, h => (heap_setCells_other vs (o + 1) (w.setCell ⟨b, o, none⟩ v) h).trans (heap_setCell_other w _ k v h)
theorem setCells_below {B b : Nat} {a : World} (hb : B ≤ b) : ∀ (vs : List Value) (o : Nat) (w : World), Below B a w → Below B a (w.setCells b o vs)
  | [], _, _, h => h
  | v :: vs, o, w, h => setCells_below hb vs (o + 1) _ (h.setCell (by exact hb) v)
theorem splice_all {α : Type} (L vs : List α) (h : vs.length = L.length) : splice L 0 vs = vs := by
  unfold splice
  rw [List.take_zero, List.nil_append, Nat.zero_add, h, List.drop_length, List.append_nil]
theorem there_row {w : World} {b o n : Nat} {cur : List Value} {t : TypeId} (h : w.heap[b]? = some (.cells cur.toArray t (0, 0))) (hl : o + n ≤ cur.length) : w.there b o n := by
  intro j hj
  refine ⟨?_, frozen_of_row w b _ _ _ h⟩
  rw [cell_of_row w b _ _ _ _ h, List.getElem?_toArray, List.getElem?_eq_getElem (show o + j < cur.length by omega)]
  rfl
theorem range_row {w : World} {b o : Nat} {cur cs : List Value} {t : TypeId} {fr : Nat × Nat} (h : w.heap[b]? = some (.cells cur.toArray t fr)) (hc : ∀ j v, cs[j]? = some v → cur[o + j]? = some v) : w.rangeAt b o cs := by
  intro j v hv
  rw [cell_of_row w b _ _ _ _ h, List.getElem?_toArray]
  exact hc j v hv
open Go.RowKit
/-- w' is w but for block b, which holds o -/
structure Upd (w w' : World) (b : Nat) (o : Obj) : Prop where
  os : w'.os = w.os
  tape : w'.tape = w.tape
  output : w'.output = w.output
  size : w'.heap.size = w.heap.size
  at_ : w'.heap[b]? = some o
  other : ∀ k, k ≠ b → w'.heap[k]? = w.heap[k]?
theorem Upd.below {w w' w0 : World} {b B : Nat} {o : Obj} (h : Upd w w' b o) (hb : Below B w0 w) (hB : B ≤ b) : Below B w0 w' :=
  hb.trans ⟨h.os, h.tape, h.output, by rw [h.size]; exact Nat.le_refl _, fun k hk => h.other k (by omega)⟩
theorem setCells_size : ∀ (vs : List Value) (o b : Nat) (w : World), (w.setCells b o vs).heap.size = w.heap.size
  | [], _, _, _ => rfl
  | v :: vs, o, b, w => (setCells_size vs (o + 1) b _).trans (by simp [World.setCell])
theorem setCells_os : ∀ (vs : List Value) (o b : Nat) (w : World), (w.setCells b o vs).os = w.os ∧ (w.setCells b o vs).tape = w.tape ∧ (w.setCells b o vs).output = w.output
  | [], _, _, _ => ⟨rfl, rfl, rfl⟩
  | v :: vs, o, b, w => setCells_os vs (o + 1) b (w.setCell ⟨b, o, none⟩ v)
theorem upd_setCells {w : World} {b o : Nat} {cur vs : List Value} {t : TypeId} (h : w.heap[b]? = some (.cells cur.toArray t (0, 0))) (hl : o + vs.length ≤ cur.length) :
    Upd w (w.setCells b o vs) b (.cells (splice cur o vs).toArray t (0, 0)) :=
  ⟨(setCells_os vs o b w).1, (setCells_os vs o b w).2.1, (setCells_os vs o b w).2.2, setCells_size vs o b w, heap_setCells_row vs cur o w h hl, fun _k hk => heap_setCells_other vs o w hk⟩
section
variable {P : Program} {ops : Array Oper} {rest : List Oper} {o : Oper} {a : Act} {w : World} {Q : Exit → Act → World → Prop}
/-- an array goes into cells of a block, from offset f on -/
theorem wpList_store_rows (hgd : o.guard = none) (ty : TypeId) (x y : Operand) (ho : o.op = .store ty x y) (b f : Nat) (cells cur : List Value) (t : TypeId)
    (hx : a.eval x = .pointer (some ⟨b, f, none⟩)) (hy : a.eval y = .agg cells.toArray) (hg : w.heap[b]? = some (.cells cur.toArray t (0, 0))) (hl : f + cells.length ≤ cur.length)
    (hi : (P.info? ty).map (·.size) = some cells.length) (h1 : ∀ v ∈ cells, v.oneCell' = true)
    (h : ∀ w', Hid (Upd w w' b (.cells (splice cur f cells).toArray t (0, 0))) → wpList P ops Q rest (a.put o.dst undef) w') : wpList P ops Q (o :: rest) a w :=
  wpList_store_mid hgd ty x y ho b f cells.toArray hx hy (there_row hg (by simpa using hl)) (by simpa using hi) (all_oneCell_toArray h1)
    (h _ (show Upd _ _ _ _ from upd_setCells hg hl))
/-- a load under a guard that says yes -/
theorem wpList_load_rows_g (hw : Region.wanted o (yielded ops a.tmps) = true) (ty : TypeId) (x : Operand) (ho : o.op = .load ty x) (b f : Nat) (cs cur : List Value) (t : TypeId) (fr : Nat × Nat) (d : TypeDesc)
    (hx : a.eval x = .pointer (some ⟨b, f, none⟩)) (hg : w.heap[b]? = some (.cells cur.toArray t fr)) (hc : ∀ j v, cs[j]? = some v → cur[f + j]? = some v)
    (hu : P.underlying ty = some d) (hd : d.isRow = true) (hi : (P.info? ty).map (·.size) = some cs.length)
    (h : wpList P ops Q rest (a.put o.dst (.agg cs.toArray)) w) : wpList P ops Q (o :: rest) a w :=
  wpList_step fun K hK => by
    rw [if_pos hw]
    exact wp_load_mid ty x ho b f hx cs d (range_row hg hc) hu hd hi (hK _ _ h)
/-- .. the whole block -/
theorem wpList_store_whole (hgd : o.guard = none) (ty : TypeId) (x y : Operand) (ho : o.op = .store ty x y) (b : Nat) (cells cur : List Value) (t : TypeId)
    (hx : a.eval x = .pointer (some ⟨b, 0, none⟩)) (hy : a.eval y = .agg cells.toArray) (hg : w.heap[b]? = some (.cells cur.toArray t (0, 0))) (hl : cells.length = cur.length)
    (hi : (P.info? ty).map (·.size) = some cells.length) (h1 : ∀ v ∈ cells, v.oneCell' = true)
    (h : ∀ w', Hid (Upd w w' b (.cells cells.toArray t (0, 0))) → wpList P ops Q rest (a.put o.dst undef) w') : wpList P ops Q (o :: rest) a w :=
  wpList_store_rows hgd ty x y ho b 0 cells cur t hx hy hg (by omega) hi h1 (by rw [splice_all _ _ hl]; exact h)
/-- an array is loaded out of a block that is known -/
theorem wpList_load_rows (hgd : o.guard = none) (ty : TypeId) (x : Operand) (ho : o.op = .load ty x) (b f : Nat) (cs cur : List Value) (t : TypeId) (fr : Nat × Nat) (d : TypeDesc)
    (hx : a.eval x = .pointer (some ⟨b, f, none⟩)) (hg : w.heap[b]? = some (.cells cur.toArray t fr)) (hc : ∀ j v, cs[j]? = some v → cur[f + j]? = some v)
    (hu : P.underlying ty = some d) (hd : d.isRow = true) (hi : (P.info? ty).map (·.size) = some cs.length)
    (h : wpList P ops Q rest (a.put o.dst (.agg cs.toArray)) w) : wpList P ops Q (o :: rest) a w :=
  wpList_load_mid hgd ty x ho b f hx cs d (range_row hg hc) hu hd hi h
end
theorem results_cell_tmp {P : Program} {fn : Func} {p t : Tmp} {ty : TypeId} (h : fn.results = #[.cell p ty, .tmp t]) (tmps : Array Value) (w : World) (g : Nat) (T : TypeId) (cs : List Value) (fr : Nat × Nat) (d : TypeDesc)
    (hp : tmps.getD p undef = .pointer (some ⟨g, 0, none⟩)) (hg : w.heap[g]? = some (.cells cs.toArray T fr))
    (hu : P.underlying ty = some d) (hd : d.isRow = true) (hi : (P.info? ty).map (·.size) = some cs.length) :
    (results fn tmps).run P w = .ok (.tuple #[.agg cs.toArray, tmps.getD t undef]) w := by
  have hp' : tmps[p]?.getD undef = .pointer (some ⟨g, 0, none⟩) := by simpa using hp
  have hl := run_loadVar_row (P := P) w g T ty cs.toArray fr d hg hu (by cases d <;> simp_all) (by simpa using hi)
  simp [results, h, hp', asAddr, hl]
/-- the end of a function with an array and a plain value as results -/
theorem post_cell_tmp {P : Program} {R : Ending → World → Prop} {fn : Func} {a : Act} {w : World} (p t : Tmp) (ty : TypeId) (h : fn.results = #[.cell p ty, .tmp t]) (g : Nat) (T : TypeId) (cs : List Value) (fr : Nat × Nat) (d : TypeDesc)
    (hg : w.heap[g]? = some (.cells cs.toArray T fr)) (hu : P.underlying ty = some d) (hd : d.isRow = true) (hi : (P.info? ty).map (·.size) = some cs.length) (v : Value)
    (hp : a.tmps.getD p undef = .pointer (some ⟨g, 0, none⟩)) (hv : a.tmps.getD t undef = v) (hdf : a.defers = []) (hR : R (.returned (.tuple #[.agg cs.toArray, v])) w) : bodyPost P fn R .ret a w := by
  subst hv
  exact bodyPost_ret (results_cell_tmp h a.tmps w g T cs fr d hp hg hu hd hi) hdf hR
theorem post_cell {P : Program} {R : Ending → World → Prop} {fn : Func} {a : Act} {w : World} (p : Tmp) (ty : TypeId) (h : fn.results = #[.cell p ty]) (g : Nat) (T : TypeId) (cs : List Value) (fr : Nat × Nat) (d : TypeDesc)
    (hg : w.heap[g]? = some (.cells cs.toArray T fr)) (hu : P.underlying ty = some d) (hd : d.isRow = true) (hi : (P.info? ty).map (·.size) = some cs.length)
    (hp : a.tmps.getD p undef = .pointer (some ⟨g, 0, none⟩)) (hdf : a.defers = []) (hR : R (.returned (.agg cs.toArray)) w) : bodyPost P fn R .ret a w :=
  bodyPost_ret (results_cell_row h a.tmps w g T cs.toArray fr d hp hg hu (by cases d <;> simp_all) (by simpa using hi)) hdf hR
theorem run_part_u8 {P : Program} {e : TypeId} {i : TypeInfo} (hi : P.info? e = some i) (hs : i.size = 1) (he : P.underlying e = some (.int .u8)) (a : List UInt8) (k : Nat) (hk : k < a.length) (w : World) :
    (part e (u8s a).toArray k).run P w = .ok (.int .u8 (a[k]'hk).toNat) w := by
  have := u8s_get a k hk
  simp [part, isAgg, run_underlying he, sizeOf, typeInfo, hi, hs, this]
theorem run_eqItems_u8 {P : Program} {e : TypeId} {i : TypeInfo} (hi : P.info? e = some i) (hs : i.size = 1) (he : P.underlying e = some (.int .u8)) (hc : P.cellsOf e = 1) (d : Nat) (a b : List UInt8) (hl : a.length = b.length) (w : World) :
    ∀ m k, k + m = a.length → (Op.eqItems (d + 1) e (P.cellsOf e) (u8s a).toArray (u8s b).toArray (List.range' k m)).run P w = .ok (decide (a.drop k = b.drop k)) w
  | 0, k, h => by
    rw [List.drop_of_length_le (by omega), List.drop_of_length_le (by omega)]
    simp [Op.eqItems]
  | m + 1, k, h => by
    have ih := run_eqItems_u8 hi hs he hc d a b hl w m (k + 1) (by omega)
    rw [List.range'_succ]
    rw [List.drop_eq_getElem_cons (show k < a.length by omega), List.drop_eq_getElem_cons (show k < b.length by omega)]
    have e1 := run_part_u8 hi hs he a k (by omega) w
    have e2 := run_part_u8 hi hs he b k (by omega) w
    rw [hc] at ih ⊢
    simp only [Op.eqItems, Sem.run_bind, Nat.mul_one, e1, e2, Result.andThen_ok]
    simp only [Op.equalIn, Sem.run_bind, run_underlying he, Result.andThen_ok, if_true, Sem.run_pure]
    by_cases hx : a[k]'(by omega) = b[k]'(by omega)
    · rw [hx]
      simp only [beq_self_eq_true, Bool.not_true, Bool.false_eq_true, if_false, ih, List.cons.injEq, true_and]
    · have hx2 : (((a[k]'(by omega)).toNat : Int) == ((b[k]'(by omega)).toNat : Int)) = false := by
        rw [beq_eq_false_iff_ne]
        intro h
        exact hx (UInt8.toNat_inj.1 (by omega))
      rw [hx2]
      simp only [Bool.not_false, if_true, Sem.run_pure, List.cons.injEq, hx, false_and, decide_false]
theorem run_equal_u8s {P : Program} {t e : TypeId} {n : Nat} {i : TypeInfo} (hu : P.underlying t = some (.array n e)) (hi : P.info? e = some i) (hs : i.size = 1) (he : P.underlying e = some (.int .u8)) (hc : P.cellsOf e = 1) (d : Nat)
    (a b : List UInt8) (ha : a.length = n) (hb : b.length = n) (w : World) : (Op.equalIn (d + 2) t (.agg (u8s a).toArray) (.agg (u8s b).toArray)).run P w = .ok (decide (a = b)) w := by
  rw [run_equalIn_array w (d + 1) _ _ hu hi, List.range_eq_range', run_eqItems_u8 hi hs he hc d a b (by omega) w n 0 (by omega)]
  rfl
def hv (h : List UInt8) : Value := .agg (u8s h).toArray
def z32 : List UInt8 := List.replicate 32 0
/-- 32 zeros, written out -/
abbrev zl32 : List Value := [.int .u8 0, .int .u8 0, .int .u8 0, .int .u8 0, .int .u8 0, .int .u8 0, .int .u8 0, .int .u8 0, .int .u8 0, .int .u8 0, .int .u8 0, .int .u8 0, .int .u8 0, .int .u8 0, .int .u8 0, .int .u8 0, .int .u8 0, .int .u8 0, .int .u8 0, .int .u8 0, .int .u8 0, .int .u8 0, .int .u8 0, .int .u8 0, .int .u8 0, .int .u8 0, .int .u8 0, .int .u8 0, .int .u8 0, .int .u8 0, .int .u8 0, .int .u8 0]
theorem zl32_eq : zl32 = u8s z32 := rfl
theorem zl32_length : zl32.length = 32 := rfl
theorem zl32_one : ∀ v ∈ zl32, v.oneCell' = true := by rw [zl32_eq]; exact u8s_one _
theorem z32_length : z32.length = 32 := List.length_replicate ..
open Go.RowKit
theorem foldl_set (off : Nat) : ∀ (vs : List Value) (k : Nat) (cur : List Value), off + k + vs.length ≤ cur.length →
    (vs.zipIdx k).foldl (fun (cs : Array Value) (p : Value × Nat) => cs.setIfInBounds (off + p.2) p.1) cur.toArray = (splice cur (off + k) vs).toArray
  | [], k, cur, _ => by simp [splice]
  | v :: vs, k, cur, h => by
    rw [List.zipIdx_cons, List.foldl_cons, List.setIfInBounds_toArray, foldl_set off vs (k + 1) (cur.set (off + k) v) (by simp at h ⊢; omega), ← Nat.add_assoc, splice_cons _ _ _ _ (by simp at h; omega)]
theorem fill_cons {place : Nat → Option (Nat × Nat)} {cur : List Value} {i off size : Nat} {v : Value} {rest : List (Nat × Value)} (hp : place i = some (off, size)) (hs : v.cells.size = size) (hf : off + size ≤ cur.length) :
    Instr.fill place cur.toArray ((i, v) :: rest) = Instr.fill place (splice cur off v.cells.toList).toArray rest := by
  have h1 := foldl_set off v.cells.toList 0 cur (by rw [Array.length_toList, hs]; omega)
  rw [Nat.add_zero] at h1
  rw [Instr.fill, hp]
  simp only
  rw [if_neg (by simp [hs]; exact hf), ← h1, ← Array.foldl_toList, Array.toList_zipIdx]
theorem run_build_struct {P : Program} {t : TypeId} {fs : Array Field} {zero cells : List Value} {places : Array (Nat × Nat)} {parts : Array (Nat × Value)} (w : World) (hz : (zeroValue t).run P w = .ok (.agg zero.toArray) w) (hu : P.underlying t = some (.struct fs))
    (hp : (fs.mapM fun f => (do pure (f.offset, ← sizeOf f.type) : Sem (Nat × Nat))).run P w = .ok places w) (hf : Instr.fill (places[·]?) zero.toArray parts.toList = some cells.toArray) :
    (Instr.build t parts).run P w = .ok (.agg cells.toArray) w := by
  unfold Instr.build
  simp only [Sem.run_bind, hz, Result.andThen_ok, run_underlying hu, hp, Value.cells, hf, Sem.run_pure]
/-- a struct is built, its value known -/
theorem wpList_build {P : Program} {ops : Array Oper} {rest : List Oper} {o : Oper} {a : Act} {w : World} {Q : Exit → Act → World → Prop} (hgd : o.guard = none) (t : TypeId) (parts : List (Nat × Operand)) (ho : o.op = .build t parts.toArray) (vs : List (Nat × Value)) (v : Value)
    (hv : parts.map (fun x => (x.1, a.eval x.2)) = vs) (hrun : (Instr.build t vs.toArray).run P w = .ok v w)
    (h : wpList P ops Q rest (a.put o.dst v) w) : wpList P ops Q (o :: rest) a w := by
  refine wpList_plain hgd fun K hK => ?_
  unfold Oper.wp execOp
  subst hv
  simp only [ho, List.map_toArray, Sem.run_bind, hrun, Result.andThen_ok, Sem.run_pure]
  exact hK _ _ h
def laneC (r u : Int) (h : List UInt8) : List Value := .int .i64 r :: .int .i64 u :: u8s h
abbrev zl34 : List Value := .int .i64 0 :: .int .i64 0 :: zl32
end Go.Proofs.YtbeooeihedhabaaDoor
