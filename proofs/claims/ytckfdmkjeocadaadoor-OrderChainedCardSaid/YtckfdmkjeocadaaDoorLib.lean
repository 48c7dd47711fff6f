/- Laws of my own over any program: rows of bytes, strings out of them. -/
import Derived.WalkKit
import Derived.Lib.Hide
import Derived.Deep.Draws
namespace Go.Proofs.YtckfdmkjeocadaaDoor
open Go.RowKit
def bstr (l : List UInt8) : ByteArray := ⟨l.toArray⟩
theorem bstr_toList (l : List UInt8) : (bstr l).data.toList = l := rfl
theorem bstr_of (s : ByteArray) : bstr s.data.toList = s := rfl
theorem bstr_size (l : List UInt8) : (bstr l).size = l.length := rfl
theorem bstr_append (a b : List UInt8) : bstr a ++ bstr b = bstr (a ++ b) := by
  apply ByteArray.ext
  simp [bstr]
theorem bstr_inj {a b : List UInt8} (h : bstr a = bstr b) : a = b := by
  have := congrArg (fun s => s.data.toList) h
  simpa [bstr] using this
def u8s (l : List UInt8) : List Value := l.map fun b => Value.int .u8 b.toNat
theorem u8s_length (l : List UInt8) : (u8s l).length = l.length := by simp [u8s]
theorem u8s_append (a b : List UInt8) : u8s (a ++ b) = u8s a ++ u8s b := by simp [u8s]
theorem u8s_get (l : List UInt8) (i : Nat) (h : i < l.length) : (u8s l)[i]? = some (.int .u8 (l[i]'h).toNat) := by
  simp [u8s, List.getElem?_eq_getElem h]
theorem conv_row {P : Program} {w : World} {src dst e : TypeId} {b off len cap : Nat} (l : List UInt8) (hs : P.underlying src = some (.slice e)) (he : P.underlying e = some (.int .u8)) (hd : P.underlying dst = some .string)
    (hl : l.length = len) (hc : ∀ i, i < len → w.cell? ⟨b, off + i, none⟩ = (u8s l)[i]?) :
    (convert src dst (.slice (some ⟨b, off, none⟩) len cap)).run P w = .ok (.string (bstr l)) w := by
  have h := run_convert_bytes_arg (P := P) w src e hs he b off len cap (l.map fun x => (x.toNat : Int)) (by simpa using hl) (fun i hi => by
    rw [hc i hi, u8s_get l i (by omega)]
    simp [List.getElem?_eq_getElem (show i < l.length by omega), List.getD]) dst hd
  rw [h]
  congr 2
  unfold strOfNums bstr
  congr 2
  rw [List.map_map]
  conv => rhs; rw [← List.map_id l]
  apply List.map_congr_left
  intro x _
  simp
theorem conv_new {P : Program} {w : World} {src dst e t : TypeId} {off len cap : Nat} {cs : Array Value} (l : List UInt8) (hs : P.underlying src = some (.slice e)) (he : P.underlying e = some (.int .u8)) (hd : P.underlying dst = some .string)
    (hl : l.length = len) (hc : ∀ i, i < len → cs[off + i]? = (u8s l)[i]?) :
    (convert src dst (.slice (some ⟨w.heap.size, off, none⟩) len cap)).run P (w.alloc (.cells cs t)) = .ok (.string (bstr l)) (w.alloc (.cells cs t)) :=
  conv_row l hs he hd hl fun i hi => by
    rw [cell_of_row (w.alloc (.cells cs t)) w.heap.size (off + i) cs t (0, 0) (heap_alloc_new w _)]
    exact hc i hi
theorem bw_call {w W w' : World} (h : Below w.heap.size w W) (k : Below W.heap.size W w') : Below w.heap.size w w' := h.trans (k.mono h.size)
theorem bw_alloc {w W : World} (h : Below w.heap.size w W) (o : Obj) : Below w.heap.size w (W.alloc o) := h.alloc h.size o
theorem bw_drewN {w W : World} {B : Nat} (h : Below B w W) (n : Nat) : Below B w (W.drewN n) := ⟨h.os, h.tape, h.output, h.size, h.block⟩
theorem block_lt {w : World} {g : Nat} {o : Obj} (h : w.heap[g]? = some o) : g < w.heap.size := by
  rcases Nat.lt_or_ge g w.heap.size with h1 | h1
  · exact h1
  · simp [Array.getElem?_eq_none h1] at h
theorem own_below {w w' : World} {base n size : Nat} {e : TypeId} {v : Value} {xs : List Value} {B : Nat} (h : w.ownsRow base e size v n xs) (hb : Below B w w') (hB : w.heap.size ≤ B) : w'.ownsRow base e size v n xs := by
  refine ⟨h.1, ?_⟩
  rcases h.2 with h2 | ⟨g, cap, cur, hv, hg, hh, r⟩
  · exact .inl h2
  · exact .inr ⟨g, cap, cur, hv, hg, by rw [hb.block g (by have := block_lt hh; omega)]; exact hh, r⟩
theorem own_blk {w : World} {base n size : Nat} {e : TypeId} {v : Value} {xs : List Value} (h : w.ownsRow base e size v n xs) : ∀ k, v.ownBlock = some k → base ≤ k := by
  intro k hk
  rcases h.2 with ⟨rfl, _⟩ | ⟨g, cap, cur, rfl, hg, _⟩
  · simp [Value.ownBlock] at hk
  · simp [Value.ownBlock] at hk; omega
theorem own_nil (w : World) (base : Nat) (e : TypeId) (size : Nat) : w.ownsRow base e size (.slice none 0 0) 0 [] := ⟨by simp, .inl ⟨rfl, rfl⟩⟩
/-- append(s, x) of one value that has just been boxed -/
theorem wpList_app1 {P : Program} {W : World} {ops : Array Oper} {rest : List Oper} {o : Oper} {a : Act} {Q : Exit → Act → World → Prop} (hgd : o.guard = none) (s x : Operand) (t e : TypeId)
    (ho : o.op = .call { callee := .builtin .append, args := #[s, x], argTypes := #[t, t] })
    (ht : P.underlying t = some (.slice e)) (i : TypeInfo) (hi : P.info? e = some i) (z : Value) (hz : i.zero = some z) (hs1 : i.size = 1) (hzs : z.cells.size = 1) (bytes : Nat) (hby : i.bytes = bytes)
    (base : Nat) (v : Value) (n : Nat) (xs : List Value) (hs : a.eval s = v) (hown : W.ownsRow base e 1 v n xs)
    (u : Value) (h1 : u.oneCell' = true) (hx : a.eval x = .slice (some ⟨W.heap.size, 0, none⟩) 1 1) (tt : TypeId) (hn : (n + 1) * bytes ≤ 140737488355328) (hn2 : n + 1 ≤ 1099511627776)
    (w0 : World) (hB : Below w0.heap.size w0 W) (hbase : base ≤ W.heap.size) (hbase2 : w0.heap.size ≤ base)
    (h : ∀ v' w', Hid (w'.ownsRow base e 1 v' (n + 1) (xs ++ [u])) → Hid (Below w0.heap.size w0 w') → wpList P ops Q rest (a.put o.dst v') w') : wpList P ops Q (o :: rest) a (W.alloc (.cells #[u] tt)) := by
  refine wpList_append_own (W.alloc (.cells #[u] tt)) hgd s x t ho base e i z 1 bytes ht hi hz hs1 hby hzs (by decide) v n xs hs (hown.alloc _) ⟨W.heap.size, 0, none⟩ 1 1 [u] hx rfl ?_ ?_ (by unfold maxLen; omega) hn (by simp; omega) ?_
  · intro j y hj
    cases j with
    | zero =>
      simp at hj
      subst hj
      show (W.alloc (.cells #[u] tt)).cell? ⟨W.heap.size, 0, none⟩ = _
      rw [cell_of_row _ W.heap.size 0 _ _ _ (heap_alloc_new W _)]
      rfl
    | succ j => simp at hj
  · intro y hy
    simp at hy
    subst hy
    exact h1
  · intro v' w' hown' hg _
    exact h v' w' hown' ((hB.alloc hB.size _).grown hg (by simp; have := hB.size; omega) (fun k hk => Nat.le_trans hbase2 (own_blk hown k hk.symm.symm)))
end Go.Proofs.YtckfdmkjeocadaaDoor
