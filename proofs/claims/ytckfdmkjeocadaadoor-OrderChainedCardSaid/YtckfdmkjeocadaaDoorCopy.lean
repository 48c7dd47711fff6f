/- copy out of a string into a row, the world behind it written out. -/
import Derived.Test.YtckfdmkjeocadaaDoorStrs
import Derived.Deep.MidRow
namespace Go.Proofs.YtckfdmkjeocadaaDoor
open Go.RowKit
theorem setRow_self {w : World} {g : Nat} {cs : Array Value} {t : TypeId} {fr : Nat × Nat} (h : w.heap[g]? = some (.cells cs t fr)) : w.setRow g cs = w := by
  have hh : (w.setRow g cs).heap = w.heap := by
    apply Array.ext_getElem?
    intro i
    by_cases hi : i = g
    · subst hi
      rw [setRow_heap w i _ cs t fr h, h]
    · rw [setRow_other w g i cs hi]
  show { w with heap := (w.setRow g cs).heap } = w
  rw [hh]
theorem run_copy_str {P : Program} (w : World) (dT sT ty elem : TypeId) (g o dLen dCap : Nat) (dp : Option Addr) (s : ByteArray) (cur : List Value) (t : TypeId)
    (hu : P.underlying dT = some (.slice elem)) (hs : (P.info? elem).map (·.size) = some 1) (hg : w.heap[g]? = some (.cells cur.toArray t (0, 0))) (hle : s.size ≤ dLen) (hfit : o + s.size ≤ cur.length)
    (hpos : 0 < s.size → dp = some ⟨g, o, none⟩) :
    (Builtin.copy_ #[dT, sT] ty #[.slice dp dLen dCap, .string s]).run P w = .ok (goInt s.size) (w.setRow g (splice cur o (u8s s.data.toList)).toArray) := by
  by_cases h0 : s.size = 0
  · have hd0 : s.data.toList = [] := by
      have : s.data.size = 0 := h0
      exact List.eq_nil_of_length_eq_zero (by rw [Array.length_toList]; exact this)
    rw [Lib.run_copy_empty_string (P := P) w dT sT ty elem dp dLen dCap s hu (by cases hq : P.info? elem <;> simp [hq] at hs ⊢) h0, h0]
    have : splice cur o (u8s s.data.toList) = cur := by rw [hd0]; simp [splice, u8s]
    rw [this, setRow_self hg]
    rfl
  · obtain rfl := hpos (by omega)
    rw [Lib.run_copy_row_string (P := P) w dT sT ty elem g o dLen dCap s cur.toArray t hu hs hg hle (by simpa using hfit)]
    congr 3
    unfold splice
    rw [u8s_length]
    simp [Lib.byteCells, u8s]
theorem step_copy_str {P : Program} {w : World} {ops : Array Oper} {o : Oper} {a : Act} {K : Act → World → Prop} {Q : Exit → Act → World → Prop} {E : Prop} (hgd : o.guard = none) (d s : Operand) (dT sT : TypeId)
    (ho : o.op = .call { callee := .builtin .copy, args := #[d, s], argTypes := #[dT, sT] }) (elem : TypeId) (hu : P.underlying dT = some (.slice elem)) (hsz : (P.info? elem).map (·.size) = some 1)
    (dp : Option Addr) (dLen dCap : Nat) (str : ByteArray) (hd : a.eval d = .slice dp dLen dCap) (hs : a.eval s = .string str)
    (g off : Nat) (cur : List Value) (t : TypeId) (hg : w.heap[g]? = some (.cells cur.toArray t (0, 0))) (hn : str.size ≤ dLen)
    (hpos : 0 < str.size → dp = some ⟨g, off, none⟩) (hfit : off + str.size ≤ cur.length)
    (hK : K (a.put o.dst (goInt str.size)) (w.setRow g (splice cur off (u8s str.data.toList)).toArray)) :
    if Region.wanted o (yielded ops a.tmps) = true then Oper.wp P o a w K Q else E := by
  have hw : Region.wanted o (yielded ops a.tmps) = true := by simp [Region.wanted, hgd]
  rw [if_pos hw]
  have hrun := run_copy_str (P := P) w dT sT o.type elem g off dLen dCap dp str cur t hu hsz hg hn hfit hpos
  unfold Oper.wp
  simp [execOp, ho, resolve, invoke, builtin, hd, hs, hrun, Result.andThen]
  exact hK
theorem splice_cons {α : Type} (L : List α) (o : Nat) (v : α) (vs : List α) (h : o < L.length) : splice (L.set o v) (o + 1) vs = splice L o (v :: vs) := by
  unfold splice
  rw [List.take_succ_eq_append_getElem (by simpa using h), List.getElem_set_self, List.append_assoc]
  congr 1
  · rw [List.take_set_of_le (Nat.le_refl _)]
  · simp only [List.cons_append, List.length_cons]
    rw [List.drop_set_of_lt (by omega), show o + 1 + vs.length = o + (vs.length + 1) by omega, List.nil_append]
theorem heap_setCells_row : ∀ (vs cur : List Value) (o : Nat) (w : World) {b : Nat} {t : TypeId}, w.heap[b]? = some (.cells cur.toArray t (0, 0)) → o + vs.length ≤ cur.length →
    (w.setCells b o vs).heap[b]? = some (.cells (splice cur o vs).toArray t (0, 0))
  | [], cur, o, w, b, t, h, _ => by
    have : splice cur o [] = cur := by simp [splice]
    rw [this]; exact h
  | v :: vs, cur, o, w, b, t, h, hl => by
    have h1 := heap_setCell_same w b o _ _ v h
    rw [List.setIfInBounds_toArray] at h1
    have h2 := heap_setCells_row vs (cur.set o v) (o + 1) (w.setCell ⟨b, o, none⟩ v) h1 (by simp at hl ⊢; omega)
    rw [splice_cons _ _ _ _ (by simp at hl; omega)] at h2
    exact h2
theorem heap_setCells_other : ∀ (vs : List Value) (o : Nat) (w : World) {b k : Nat}, k ≠ b → (w.setCells b o vs).heap[k]? = w.heap[k]?
  | [], _, _, _, _, _ => rfl
  | v :: vs, o, w, b, k, h => (heap_setCells_other vs (o + 1) (w.setCell ⟨b, o, none⟩ v) h).trans (heap_setCell_other w _ k v h)
theorem setCells_below {B b : Nat} {a : World} (hb : B ≤ b) : ∀ (vs : List Value) (o : Nat) (w : World), Below B a w → Below B a (w.setCells b o vs)
  | [], _, _, h => h
  | v :: vs, o, w, h => setCells_below hb vs (o + 1) _ (h.setCell (by exact hb) v)
theorem splice_all {α : Type} (L vs : List α) (h : vs.length = L.length) : splice L 0 vs = vs := by
  unfold splice
  rw [List.take_zero, List.nil_append, Nat.zero_add, h, List.drop_length, List.append_nil]
theorem there_row {w : World} {b o n : Nat} {cur : List Value} {t : TypeId} (h : w.heap[b]? = some (.cells cur.toArray t (0, 0))) (hl : o + n ≤ cur.length) : w.there b o n := by
  intro j hj
  refine ⟨?_, frozen_of_row w b _ _ _ h⟩
  rw [cell_of_row w b _ _ _ _ h, List.getElem?_toArray, List.getElem?_eq_getElem (show o + j < cur.length by omega)]
  rfl
theorem range_row {w : World} {b o : Nat} {cur cs : List Value} {t : TypeId} {fr : Nat × Nat} (h : w.heap[b]? = some (.cells cur.toArray t fr)) (hc : ∀ j v, cs[j]? = some v → cur[o + j]? = some v) : w.rangeAt b o cs := by
  intro j v hv
  rw [cell_of_row w b _ _ _ _ h, List.getElem?_toArray]
  exact hc j v hv
end Go.Proofs.YtckfdmkjeocadaaDoor
