/- A slice of bytes that a call owns: made out of a string, appended to, read, made a string again. -/
import Derived.Test.YtbeooeihedhabaaDoorCQuiet
import Derived.Test.YtbeooeihedhabaaDoorProg
import Derived.Deep.AppendSrc
namespace Go.Proofs.YtbeooeihedhabaaDoor
open Go.RowKit
theorem byte_info : Tryd.prog.info? 5 = some { ((Tryd.prog.info? 5).getD default) with zero := some (.int .u8 0), size := 1, bytes := 1 } := by kernel_rfl
theorem set_row {w : World} {g i : Nat} {cs : List Value} {t : TypeId} {fr : Nat × Nat} (hb : w.heap[g]? = some (.cells cs.toArray t fr)) (v : Value) : (w.setCell ⟨g, i, none⟩ v).heap[g]? = some (.cells (cs.set i v).toArray t fr) := by
  simp [World.setCell, Array.getElem?_modify, hb]
theorem block_of_cell {w : World} {p : Addr} {v : Value} (h : w.cell? p = some v) : p.block < w.heap.size := by
  rcases Nat.lt_or_ge p.block w.heap.size with h1 | h1
  · exact h1
  · simp [World.cell?, Array.getElem?_eq_none h1] at h
theorem keep_row {W W' : World} (hb : Below W.heap.size W W') {b : Nat} {o : Obj} (h : W.heap[b]? = some o) : W'.heap[b]? = some o := (hb.block b (block_lt h)).trans h
/-- v is a slice of the bytes xs, in a block from B on, and may be written behind its end -/
def OwnB (B : Nat) (v : Value) (xs : List UInt8) (w : World) : Prop :=
  ∃ g cap rest fr, v = .slice (some ⟨g, 0, none⟩) xs.length cap ∧ B ≤ g ∧ w.heap[g]? = some (.cells (u8s xs ++ rest).toArray 5 fr) ∧ cap = xs.length + rest.length ∧ cap ≤ maxLen ∧ (fr.2 = 0 ∨ cap ≤ fr.1)
theorem OwnB.below {B : Nat} {v : Value} {xs : List UInt8} {w w' : World} {C : Nat} (h : OwnB B v xs w) (hb : Below C w w') (hC : w.heap.size ≤ C) : OwnB B v xs w' := by
  obtain ⟨g, cap, rest, fr, hv, hg, hh, r⟩ := h
  exact ⟨g, cap, rest, fr, hv, hg, by rw [hb.block g (Nat.lt_of_lt_of_le (block_lt hh) hC)]; exact hh, r⟩
theorem OwnB.mono {B C : Nat} {v : Value} {xs : List UInt8} {w : World} (h : OwnB B v xs w) (hC : C ≤ B) : OwnB C v xs w := by
  obtain ⟨g, cap, rest, fr, hv, hg, r⟩ := h
  exact ⟨g, cap, rest, fr, hv, Nat.le_trans hC hg, r⟩
theorem OwnB.alloc {B : Nat} {v : Value} {xs : List UInt8} {w : World} (h : OwnB B v xs w) (o : Obj) : OwnB B v xs (w.alloc o) :=
  h.below (bw_alloc (Below.refl w.heap.size w) o) (Nat.le_refl _)
theorem OwnB.drewN {B : Nat} {v : Value} {xs : List UInt8} {w : World} (h : OwnB B v xs w) (n : Nat) : OwnB B v xs (w.drewN n) := h
theorem OwnB.lt {B : Nat} {v : Value} {xs : List UInt8} {w : World} (h : OwnB B v xs w) : B ≤ w.heap.size := by
  obtain ⟨g, cap, rest, fr, hv, hg, hh, r⟩ := h
  exact Nat.le_of_lt (Nat.lt_of_le_of_lt hg (block_lt hh))
theorem sets_row : ∀ (vs cur : List Value) (o : Nat) (w : World) {b : Nat} {t : TypeId} {fr : Nat × Nat}, w.heap[b]? = some (.cells cur.toArray t fr) → o + vs.length ≤ cur.length →
    (w.setCells b o vs).heap[b]? = some (.cells (splice cur o vs).toArray t fr)
  | [], cur, o, w, b, t, fr, h, _ => by
    have : splice cur o [] = cur := by simp [splice]
    rw [this]; exact h
  | v :: vs, cur, o, w, b, t, fr, h, hl => by
    have h2 := sets_row vs (cur.set o v) (o + 1) (w.setCell ⟨b, o, none⟩ v) (set_row h v) (by simp at hl ⊢; omega)
    rw [splice_cons _ _ _ _ (by simp at hl; omega)] at h2
    exact h2
theorem splice_end (a b c : List Value) : b.length ≤ c.length → splice (a ++ c) a.length b = a ++ b ++ c.drop b.length := by
  intro _
  unfold splice
  rw [List.take_left, List.drop_append, List.drop_eq_nil_of_le (by omega), List.nil_append, Nat.add_sub_cancel_left, List.append_assoc]
theorem run_app {B : Nat} {v : Value} {xs : List UInt8} {w : World} (h : OwnB B v xs w) {tx : TypeId} {x : Value} {ys : List UInt8} (hs : Src Tryd.prog 1 tx x ys.length (u8s ys) w) (hl : xs.length + ys.length ≤ 140737488355328) (ty : TypeId) :
    ∃ v' w', (Builtin.append_ #[48, tx] ty #[v, x]).run Tryd.prog w = .ok v' w' ∧ OwnB B v' (xs ++ ys) w' ∧ Below B w w' := by
  have hB := h.lt
  obtain ⟨g, cap, rest, fr, rfl, hg, hh, hcap, hmax, hfr⟩ := h
  by_cases hroom : xs.length + ys.length ≤ cap
  · have hlen : (u8s xs ++ rest).length = cap := by rw [List.length_append, u8s_length, hcap]
    have hr := run_append_room_src (P := Tryd.prog) w 48 tx ty 5 _ Tryd.underlying48 byte_info g 0 xs.length cap x ys.length (u8s ys) hs hroom
      (fun j hj => by
        rw [u8s_length] at hj
        rw [cell_of_row w g _ _ _ _ hh, List.getElem?_toArray, List.getElem?_eq_getElem (by rw [hlen]; simp; omega)]
        rfl)
      (fun j hj => by
        rw [u8s_length] at hj
        obtain ⟨lo, hi⟩ := fr
        simp only [World.frozen?, hh, Bool.and_eq_false_iff, decide_eq_false_iff_not]
        simp only at hfr
        rcases hfr with hfr | hfr
        · right; omega
        · left; simp; omega)
    refine ⟨_, _, hr, ⟨g, cap, rest.drop ys.length, fr, ?_, hg, ?_, ?_, hmax, hfr⟩, ?_⟩
    · rw [List.length_append]
    · have h2 := sets_row (u8s ys) (u8s xs ++ rest) (0 + xs.length * 1) w hh (by rw [hlen, u8s_length]; omega)
      rw [show 0 + xs.length * 1 = (u8s xs).length by rw [u8s_length]; omega, splice_end _ _ _ (by rw [u8s_length]; omega), u8s_length xs, u8s_length ys, ← u8s_append] at h2
      rw [show 0 + xs.length * 1 = xs.length by omega]
      exact h2
    · rw [List.length_append, List.length_drop]; omega
    · exact setCells_below hg _ _ _ (Below.refl _ _)
  · have hold : (Builtin.firstCells 1 xs.length (.slice (some ⟨g, 0, none⟩) xs.length cap)).run Tryd.prog w.drew = .ok (u8s xs).toArray w.drew :=
      run_firstCells_some (P := Tryd.prog) w.drew 1 xs.length ⟨g, 0, none⟩ xs.length cap (u8s xs) (by rw [u8s_length, Nat.mul_one]) (fun j u hj => by
        have hadd : (⟨g, 0, none⟩ : Addr).add j = ⟨g, j, none⟩ := by unfold Addr.add; split <;> simp_all
        rw [hadd]
        show w.cell? ⟨g, j, none⟩ = _
        rw [cell_of_row w g _ _ _ _ hh, List.getElem?_toArray, List.getElem?_append_left (List.getElem?_eq_some_iff.1 hj).1]
        exact hj)
    have hr := run_append_grow_src (P := Tryd.prog) w 48 tx ty 5 _ (.int .u8 0) Tryd.underlying48 byte_info rfl (some ⟨g, 0, none⟩) xs.length cap (u8s xs) hold x ys.length (u8s ys) hs (by omega) (by omega)
      (growslice_fits (by omega) (by show _ * 1 ≤ _; omega))
    have hge := grownCap_ge w (xs.length + ys.length) cap 5
    have hle := grownCap_le_maxLen w (xs.length + ys.length) cap 5 (by unfold maxLen; omega)
    refine ⟨_, _, hr, ⟨w.heap.size, _, List.replicate (grownCap w (xs.length + ys.length) cap 5 - (xs.length + ys.length)) (.int .u8 0), (0, 0), ?_, hB, ?_, ?_, hle, .inl rfl⟩, ?_⟩
    · rw [List.length_append]
    · have h2 := heap_alloc_new w.drew (.cells (((u8s xs ++ u8s ys).toArray ++ Builtin.zeroCells (Value.int .u8 0).cells (grownCap w (xs.length + ys.length) cap 5 - (xs.length + ys.length)))) 5)
      refine h2.trans (congrArg (fun cs => some (Obj.cells cs 5 (0, 0))) ?_)
      apply Array.ext'
      rw [u8s_append]
      simp only [Builtin.zeroCells, Value.cells]
      simp
      apply List.ext_getElem (by simp)
      intro i h1 h2
      simp [Nat.mod_one]
    · rw [List.length_append, List.length_replicate]; omega
    · exact ((Below.refl _ _).drew).alloc hB _
/-- .. or nil, where there is none yet -/
def OwnZ (B : Nat) (v : Value) (xs : List UInt8) (w : World) : Prop := (v = .slice none 0 0 ∧ xs = [] ∧ B ≤ w.heap.size) ∨ OwnB B v xs w
theorem OwnZ.below {B : Nat} {v : Value} {xs : List UInt8} {w w' : World} {C : Nat} (h : OwnZ B v xs w) (hb : Below C w w') (hC : w.heap.size ≤ C) : OwnZ B v xs w' :=
  h.imp (fun ⟨h1, h2, h3⟩ => ⟨h1, h2, Nat.le_trans h3 hb.size⟩) (fun h => h.below hb hC)
theorem OwnZ.lt {B : Nat} {v : Value} {xs : List UInt8} {w : World} (h : OwnZ B v xs w) : B ≤ w.heap.size := by
  rcases h with ⟨_, _, h⟩ | h
  · exact h
  · exact h.lt
theorem OwnZ.shape {B : Nat} {v : Value} {xs : List UInt8} {w : World} (h : OwnZ B v xs w) : ∃ q c, v = .slice q xs.length c := by
  rcases h with ⟨rfl, rfl, _⟩ | ⟨g, cap, rest, fr, rfl, _⟩
  · exact ⟨none, 0, rfl⟩
  · exact ⟨_, _, rfl⟩
theorem run_appZ {B : Nat} {v : Value} {xs : List UInt8} {w : World} (h : OwnZ B v xs w) {tx : TypeId} {x : Value} {ys : List UInt8} (hs : Src Tryd.prog 1 tx x ys.length (u8s ys) w) (hy : 0 < ys.length) (hl : xs.length + ys.length ≤ 140737488355328) (ty : TypeId) :
    ∃ v' w', (Builtin.append_ #[48, tx] ty #[v, x]).run Tryd.prog w = .ok v' w' ∧ OwnB B v' (xs ++ ys) w' ∧ Below B w w' := by
  rcases h with ⟨rfl, rfl, hB⟩ | h
  · have hold : (Builtin.firstCells 1 0 (.slice none 0 0)).run Tryd.prog w.drew = .ok ([] : List Value).toArray w.drew := by
      simp [Builtin.firstCells]
    have hr := run_append_grow_src (P := Tryd.prog) w 48 tx ty 5 _ (.int .u8 0) Tryd.underlying48 byte_info rfl none 0 0 [] hold x ys.length (u8s ys) hs (by omega) (by simp at hl; omega)
      (growslice_fits (by omega) (by show _ * 1 ≤ _; simp at hl; omega))
    have hge := grownCap_ge w (0 + ys.length) 0 5
    have hle := grownCap_le_maxLen w (0 + ys.length) 0 5 (by simp at hl; unfold maxLen; omega)
    refine ⟨_, _, hr, ⟨w.heap.size, _, List.replicate (grownCap w (0 + ys.length) 0 5 - (0 + ys.length)) (.int .u8 0), (0, 0), ?_, hB, ?_, ?_, hle, .inl rfl⟩, ?_⟩
    · rw [List.nil_append, Nat.zero_add]
    · have h2 := heap_alloc_new w.drew (.cells ((([] ++ u8s ys).toArray ++ Builtin.zeroCells (Value.int .u8 0).cells (grownCap w (0 + ys.length) 0 5 - (0 + ys.length)))) 5)
      refine h2.trans (congrArg (fun cs => some (Obj.cells cs 5 (0, 0))) ?_)
      apply Array.ext'
      simp only [Builtin.zeroCells, Value.cells]
      simp
      apply List.ext_getElem (by simp)
      intro i h1 h2
      simp [Nat.mod_one]
    · rw [List.nil_append, List.length_replicate]; omega
    · exact ((Below.refl _ _).drew).alloc hB _
  · exact run_app h hs hl ty
theorem OwnB.conv {B : Nat} {v : Value} {xs : List UInt8} {w : World} (h : OwnB B v xs w) : (convert 48 9 v).run Tryd.prog w = .ok (.string (bstr xs)) w := by
  obtain ⟨g, cap, rest, fr, rfl, hg, hh, hcap, hmax, hfr⟩ := h
  refine conv_row xs Tryd.underlying48 Tryd.underlying5 Tryd.underlying9 rfl fun i hi => ?_
  rw [cell_of_row w g _ _ _ _ hh, List.getElem?_toArray, Nat.zero_add, List.getElem?_append_left (by rw [u8s_length]; exact hi)]
/-- []byte(s) -/
theorem conv_own (w : World) (s : ByteArray) (hs : s.size ≤ maxLen) : ∃ v W, (convert 9 48 (.string s)).run Tryd.prog w = .ok v W ∧ OwnB w.heap.size v s.data.toList W ∧ Below w.heap.size w W := by
  have hge := grownCap_ge w s.size 0 5
  have hsz : s.data.toList.length = s.size := rfl
  refine ⟨_, _, run_bytes_of_string w 9 48 5 s Tryd.underlying9 Tryd.underlying48 Tryd.underlying5, ⟨w.heap.size, grownCap w s.size 0 5, List.replicate (grownCap w s.size 0 5 - s.size) (.int .u8 0), ((bytesRow s (grownCap w s.size 0 5)).size, (bytesRow s (grownCap w s.size 0 5)).size + 1), rfl, Nat.le_refl _, ?_, ?_, grownCap_le_maxLen w _ _ _ hs, .inr ?_⟩, ((Below.refl _ _).drew).alloc (Nat.le_refl _) _⟩
  · show (w.heap.push _)[w.heap.size]? = _
    rw [Array.getElem?_push_size]
    congr 2
    unfold bytesRow u8s
    apply Array.ext'
    simp
  · rw [List.length_replicate]; omega
  · unfold bytesRow
    rw [Array.size_append, Array.size_map, Array.size_replicate]
    show _ ≤ s.size + _
    omega
section
variable {ops : Array Oper} {rest : List Oper} {o : Oper} {a : Act} {Q : Exit → Act → World → Prop} {w : World}
/-- append(b, s..), s a string -/
theorem wpList_app_str (hgd : o.guard = none) (sl x : Operand) (ho : o.op = .call { callee := .builtin .append, args := #[sl, x], argTypes := #[48, 9] }) (B : Nat) (v : Value) (xs : List UInt8) (hv : a.eval sl = v) (h : OwnB B v xs w)
    (s : ByteArray) (hx : a.eval x = .string s) (hl : xs.length + s.size ≤ 140737488355328)
    (hK : ∀ v' w', Hid (OwnB B v' (xs ++ s.data.toList) w') → Hid (Below B w w') → wpList Tryd.prog ops Q rest (a.put o.dst v') w') : wpList Tryd.prog ops Q (o :: rest) a w := by
  refine wpList_plain hgd fun K hK' => ?_
  obtain ⟨v', w', hr, h2, h3⟩ := run_app h (ys := s.data.toList) (Src.ofString w Tryd.underlying9 s) hl o.type
  unfold Oper.wp execOp
  simp only [ho, resolve, invoke, builtin, Sem.run_bind, Sem.run_pure, Result.andThen_ok, List.map_toArray, List.map_cons, List.map_nil, hv, hx, hr]
  exact hK' _ _ (hK v' w' h2 h3)
/-- append(b, l..), l bytes that lie in cells -/
theorem wpList_app_sl (hgd : o.guard = none) (sl x : Operand) (ho : o.op = .call { callee := .builtin .append, args := #[sl, x], argTypes := #[48, 48] }) (B : Nat) (v : Value) (xs : List UInt8) (hv : a.eval sl = v) (h : OwnB B v xs w)
    (ad : Addr) (c n : Nat) (ys : List UInt8) (hn : ys.length = n) (hx : a.eval x = .slice (some ad) n c) (hc : ∀ j u, (u8s ys)[j]? = some u → w.cell? (ad.add j) = some u) (hl : xs.length + n ≤ 140737488355328)
    (hK : ∀ v' w', Hid (OwnB B v' (xs ++ ys) w') → Hid (Below B w w') → wpList Tryd.prog ops Q rest (a.put o.dst v') w') : wpList Tryd.prog ops Q (o :: rest) a w := by
  subst hn
  refine wpList_plain hgd fun K hK' => ?_
  obtain ⟨v', w', hr, h2, h3⟩ := run_app h (ys := ys) (Src.ofSlice w Tryd.underlying48 ad ys.length c (u8s ys) (by rw [u8s_length, Nat.mul_one]) hc (u8s_one _)) hl o.type
  unfold Oper.wp execOp
  simp only [ho, resolve, invoke, builtin, Sem.run_bind, Sem.run_pure, Result.andThen_ok, List.map_toArray, List.map_cons, List.map_nil, hv, hx, hr]
  exact hK' _ _ (hK v' w' h2 h3)
/-- append(b, c): the byte has just been boxed -/
theorem wpList_app_byte (hgd : o.guard = none) (sl x : Operand) (ho : o.op = .call { callee := .builtin .append, args := #[sl, x], argTypes := #[48, 48] }) (B : Nat) (v : Value) (xs : List UInt8) (hv : a.eval sl = v) (h : OwnB B v xs w)
    (c : UInt8) (n : Int) (hn : n = (c.toNat : Int)) (hx : a.eval x = .slice (some ⟨w.heap.size, 0, none⟩) 1 1) (t : TypeId) (hl : xs.length + 1 ≤ 140737488355328)
    (hK : ∀ v' w', Hid (OwnB B v' (xs ++ [c]) w') → Hid (Below B w w') → wpList Tryd.prog ops Q rest (a.put o.dst v') w') : wpList Tryd.prog ops Q (o :: rest) a (w.alloc (.cells #[.int .u8 n] t)) := by
  subst hn
  have hB := h.lt
  refine wpList_app_sl hgd sl x ho B v xs hv (h.alloc _) ⟨w.heap.size, 0, none⟩ 1 1 [c] rfl hx ?_ hl ?_
  · intro j u hj
    cases j with
    | zero =>
      simp [u8s] at hj
      subst hj
      show (w.alloc _).cell? ⟨w.heap.size, 0, none⟩ = _
      rw [cell_of_row _ w.heap.size 0 _ _ _ (heap_alloc_new w _)]
      rfl
    | succ j => simp [u8s] at hj
  · intro v' w' h2 h3
    exact hK v' w' h2 (show Below B w w' from ((Below.refl B w).alloc hB _).trans h3.out)
end
end Go.Proofs.YtbeooeihedhabaaDoor
