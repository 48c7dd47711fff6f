/- Laws of my own over any program: slices of strings that are read; copy out of a string. -/
import Derived.Test.YtckfdmkjeocadaaDoorLib
import Derived.Lib.BufferWrite
import Derived.Laws.CopyOwn
namespace Go.Proofs.YtckfdmkjeocadaaDoor
open Go.RowKit
/-- a slice of strings (nil, empty or not) that reads as a list -/
def RdStrs (w : World) (v : Value) (ls : List ByteArray) : Prop :=
  ∃ A c, v = .slice A ls.length c ∧ ls.length ≤ 1099511627776 ∧ (∃ b off, b < w.heap.size ∧ ∀ k (h : k < ls.length), A = some ⟨b, off, none⟩ ∧ w.cell? ⟨b, off + k, none⟩ = some (.string (ls[k]'h)))
theorem RdStrs.below {w w' : World} {v : Value} {ls : List ByteArray} {B : Nat} (h : RdStrs w v ls) (hb : Below B w w') (hB : w.heap.size ≤ B) : RdStrs w' v ls := by
  obtain ⟨A, c, rfl, hl, b, off, hb0, hr⟩ := h
  refine ⟨A, c, rfl, hl, b, off, Nat.lt_of_lt_of_le hb0 hb.size, fun k hk => ⟨(hr k hk).1, ?_⟩⟩
  rw [hb.cell (p := ⟨b, off + k, none⟩) (by show b < B; omega)]
  exact (hr k hk).2
theorem RdStrs.of_own {w : World} {base : Nat} {e : TypeId} {v : Value} {n : Nat} {ls : List ByteArray} (h : w.ownsRow base e 1 v n (ls.map Value.string)) (hn : n ≤ 1099511627776) (h0 : 0 < w.heap.size) : RdStrs w v ls := by
  have hl : ls.length = n := by have := h.1; simpa using this
  rcases h.2 with ⟨rfl, rfl⟩ | ⟨g, cap, cur, rfl, _, hg, _, _, _, ht⟩
  · exact ⟨none, 0, by rw [hl], by omega, 0, 0, h0, fun k hk => by omega⟩
  · refine ⟨_, cap, by rw [hl], by omega, g, 0, ?_, fun k hk => ⟨rfl, ?_⟩⟩
    · rcases Nat.lt_or_ge g w.heap.size with h | h
      · exact h
      · simp [Array.getElem?_eq_none h] at hg
    · rw [cell_of_row w g (0 + k) cur e (0, 0) hg, Nat.zero_add]
      have : (List.take (n * 1) cur.toList)[k]? = (ls.map Value.string)[k]? := by rw [ht]
      rw [List.getElem?_take_of_lt (by omega)] at this
      rw [← Array.getElem?_toList, this]
      simp [List.getElem?_eq_getElem hk]
def tot (ls : List ByteArray) : Nat := (ls.map ByteArray.size).sum
theorem tot_snoc (ls : List ByteArray) (k : Nat) (h : k < ls.length) : tot (ls.take (k + 1)) = tot (ls.take k) + (ls[k]'h).size := by
  unfold tot
  rw [List.take_succ_eq_append_getElem h, List.map_append, List.sum_append]
  simp
theorem tot_le (ls : List ByteArray) (k : Nat) : tot (ls.take k) ≤ tot ls := by
  unfold tot
  conv => rhs; rw [← List.take_append_drop k ls, List.map_append, List.sum_append]
  omega
def flat (ls : List ByteArray) : List UInt8 := (ls.map fun s => s.data.toList).flatten
theorem flat_length (ls : List ByteArray) : (flat ls).length = tot ls := by
  simp [flat, tot, List.length_flatten]
  rfl
theorem flat_snoc (ls : List ByteArray) (k : Nat) (h : k < ls.length) : flat (ls.take (k + 1)) = flat (ls.take k) ++ (ls[k]'h).data.toList := by
  unfold flat
  rw [List.take_succ_eq_append_getElem h, List.map_append, List.flatten_append]
  simp
theorem u8s_one (l : List UInt8) : ∀ v ∈ u8s l, v.oneCell' = true := by
  intro v hv
  simp only [u8s, List.mem_map] at hv
  obtain ⟨b, _, rfl⟩ := hv
  rfl
theorem wpList_copy_str {P : Program} {w : World} {ops : Array Oper} {rest : List Oper} {o : Oper} {a : Act} {Q : Exit → Act → World → Prop} (hgd : o.guard = none) (d s : Operand) (dT sT : TypeId)
    (ho : o.op = .call { callee := .builtin .copy, args := #[d, s], argTypes := #[dT, sT] }) (elem : TypeId) (hu : P.underlying dT = some (.slice elem)) (hsz : (P.info? elem).map (·.size) = some 1)
    (dp : Option Addr) (dLen dCap : Nat) (str : ByteArray) (hd : a.eval d = .slice dp dLen dCap) (hs : a.eval s = .string str)
    (g off : Nat) (cur : List Value) (t : TypeId) (hg : w.heap[g]? = some (.cells cur.toArray t (0, 0))) (hn : str.size ≤ dLen)
    (hpos : 0 < str.size → dp = some ⟨g, off, none⟩)
    (hfit : off + str.size ≤ cur.length) (B : Nat) (w0 : World) (hb : Below B w0 w) (hBg : B ≤ g)
    (h : ∀ w', Hid (w'.heap[g]? = some (.cells (splice cur off (u8s str.data.toList)).toArray t (0, 0))) → Below B w0 w' → wpList P ops Q rest (a.put o.dst (goInt str.size)) w') :
    wpList P ops Q (o :: rest) a w := by
  refine wpList_plain hgd fun K hK => ?_
  by_cases h0 : str.size = 0
  · have hrun := Lib.run_copy_empty_string (P := P) w dT sT o.type elem dp dLen dCap str hu (by cases hq : P.info? elem <;> simp [hq] at hsz ⊢) h0
    have hd0 : str.data.toList = [] := by
      have : str.data.size = 0 := h0
      exact List.eq_nil_of_length_eq_zero (by rw [Array.length_toList]; exact this)
    unfold Oper.wp
    simp [execOp, ho, resolve, invoke, builtin, hd, hs, hrun, Result.andThen]
    refine hK _ _ ?_
    rw [h0] at h
    exact h w (show _ = _ by rw [hd0]; simpa [splice, u8s] using hg) hb
  · obtain rfl := hpos (by omega)
    have hrun := Lib.run_copy_row_string (P := P) w dT sT o.type elem g off dLen dCap str cur.toArray t hu hsz hg hn (by simpa using hfit)
    unfold Oper.wp
    simp [execOp, ho, resolve, invoke, builtin, hd, hs, hrun, Result.andThen]
    refine hK _ _ (h _ (show _ = _ from ?_) (below_setRow hb hBg _))
    rw [setRow_heap w g _ _ t _ hg]
    congr 3
    unfold splice
    rw [u8s_length]
    simp [Lib.byteCells, u8s]
end Go.Proofs.YtckfdmkjeocadaaDoor
