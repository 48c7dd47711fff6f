/- window.Pack: before the static text is noted; a range over a string, whatever lies behind its iterator. -/
import Derived.Test.YtbelofikknfoaaaCWBun
import Derived.Laws.RangeString
namespace Go.Proofs.Ytbelofikknfoaaa
open Go.RowKit Go.Maps Go.ChangeShapes Go.WideMaps Go.MapKept
set_option maxHeartbeats 1000000
set_option maxRecDepth 4000
def setIter (w : World) (r : Nat) (s : ByteArray) (pos : Nat) : World := { w with heap := w.heap.setIfInBounds r (.stringIter s pos) }
theorem setIter_here {w : World} {r : Nat} {s : ByteArray} {pos : Nat} (h : r < w.heap.size) : (setIter w r s pos).heap[r]? = some (.stringIter s pos) := by
  show (w.heap.setIfInBounds r _)[r]? = _
  rw [Array.getElem?_setIfInBounds_self_of_lt h]
theorem setIter_grown (w : World) (r : Nat) (s : ByteArray) (pos : Nat) : w.grownBy (setIter w r s pos) (some r) :=
  ⟨rfl, rfl, rfl, by simp [setIter], fun k _ hk => by
    show (w.heap.setIfInBounds r _)[k]? = _
    rw [Array.getElem?_setIfInBounds_ne fun e => hk (by rw [e])]⟩
theorem run_next_at {P : Program} {w : World} {r : Nat} {s : ByteArray} {pos : Nat} (hb : w.heap[r]? = some (.stringIter s pos)) (h : pos < s.size) (ha : (s[pos]'h).toNat < 128) (ty : TypeId) :
    (Instr.next (.pointer (some ⟨r, 0, none⟩)) true ty).run P w = .ok (.tuple #[.bool true, .int .i64 pos, .int .i32 (s[pos]'h).toNat]) (setIter w r s (pos + 1)) := by
  simp only [Instr.next, getObj, setObj, Sem.run_bind, Sem.run, hb, Result.andThen, h, if_true, decode_ascii s pos h ha]
  simp [goInt, Sem.run, hb, setIter]
theorem run_next_over {P : Program} {w : World} {r : Nat} {s : ByteArray} {pos : Nat} (hb : w.heap[r]? = some (.stringIter s pos)) (h : ¬ pos < s.size) (ty : TypeId) :
    (Instr.next (.pointer (some ⟨r, 0, none⟩)) true ty).run P w = .ok (.tuple #[.bool false]) w := by
  simp [Instr.next, getObj, Sem.run, hb, h]
theorem stat_ascii : ∀ i, (h : i < (bstr statL).size) → ((bstr statL)[i]'h).toNat < 128 := by
  intro i h
  have h2 : ∀ x ∈ statL, x.toNat < 128 := by decide
  exact h2 _ (Array.getElem_mem_toList (xs := (bstr statL).data) h)
theorem note_start (w : World) (K S : ByteArray) : ∃ W, W = (((w.alloc (.cells #[.string K] 9)).alloc (.map #[] 0)).alloc (.cells #[.map (some (w.heap.size + 1))] 49)).iter S 0 ∧ NoteAt W w.heap.size (w.heap.size + 1 + 1) (w.heap.size + 1) (w.heap.size + 1 + 1) K 0 (fun j => j = w.heap.size ∨ j = w.heap.size + 1 + 1 ∨ j = w.heap.size + 1 + 1 + 1) ∧ W.heap[w.heap.size + 1 + 1 + 1]? = some (.stringIter S 0) ∧ Below w.heap.size w W := by
  obtain ⟨w1, h1⟩ : ∃ w1, w1 = w.alloc (.cells #[.string K] 9) := ⟨_, rfl⟩
  have s1 : w1.heap.size = w.heap.size + 1 := by rw [h1]; simp
  obtain ⟨w2, h2⟩ : ∃ w2, w2 = w1.alloc (.map #[] 0) := ⟨_, rfl⟩
  have s2 : w2.heap.size = w.heap.size + 1 + 1 := by rw [h2]; simp [s1]
  obtain ⟨w3, h3⟩ : ∃ w3, w3 = w2.alloc (.cells #[.map (some (w.heap.size + 1))] 49) := ⟨_, rfl⟩
  have s3 : w3.heap.size = w.heap.size + 1 + 1 + 1 := by rw [h3]; simp [s2]
  have g3 : w2.grownBy w3 none := by rw [h3]; exact World.grownBy_alloc _ _ _
  have g4 : w3.grownBy (w3.iter S 0) none := World.grownBy_alloc _ _ _
  have s4 : (w3.iter S 0).heap.size = w.heap.size + 1 + 1 + 1 + 1 := by show (w3.alloc _).heap.size = _; simp [s3]
  refine ⟨w3.iter S 0, by rw [h3, h2, h1], ?_, ?_, ?_⟩
  · have o2 := World.ownsGroups_made (H := Unit) w1 Try.prog 9 3 .i64
    rw [← h2, s1] at o2
    have c2 : ∀ es clock, w2.heap[w.heap.size + 1]? = some (.map es clock) → ∀ x ∈ es.toList, x.val.ownBlock = none ∨ x.val.ownBlock ≠ none := fun es clock _ x _ => by cases x.val.ownBlock <;> simp
    have o3 := o2.kept g3 (by simp) c2
    have c3 : ∀ es clock, w3.heap[w.heap.size + 1]? = some (.map es clock) → ∀ x ∈ es.toList, x.val.ownBlock = none ∨ x.val.ownBlock ≠ none := fun es clock _ x _ => by cases x.val.ownBlock <;> simp
    have o4 := o3.kept g4 (by simp) c3
    have m2 := World.Shuns_made w1 (fun j => j = w.heap.size ∨ j = w.heap.size + 1 + 1 ∨ j = w.heap.size + 1 + 1 + 1)
    rw [← h2, s1] at m2
    have m4 := (m2.kept g3 (by rw [s2]; omega) (by simp)).kept g4 (by rw [s3]; omega) (by simp)
    refine ⟨?_, ?_, ⟨0, _, Nat.le_refl _, o4, fun key _ => rfl⟩, m4, by rw [s4]; omega, fun j hj => by rw [s4]; omega⟩
    · have b1 : w1.heap[w.heap.size]? = some (.cells #[.string K] 9 (0, 0)) := by rw [h1]; exact heap_alloc_new w _
      have b2 : w2.heap[w.heap.size]? = w1.heap[w.heap.size]? := by rw [h2]; exact heap_alloc_old w1 _ (by rw [s1]; omega)
      exact ((g4.block _ (by rw [s3]; omega) (by simp)).trans ((g3.block _ (by rw [s2]; omega) (by simp)).trans b2)).trans b1
    · have b3 : w3.heap[w.heap.size + 1 + 1]? = some (.cells #[.map (some (w.heap.size + 1))] 49 (0, 0)) := by rw [h3, ← s2]; exact heap_alloc_new w2 _
      exact (g4.block _ (by rw [s3]; omega) (by simp)).trans b3
  · rw [← s3]
    exact World.iter_heap w3 S 0
  · have b := bw_alloc (bw_alloc (bw_alloc (bw_alloc (Below.refl w.heap.size w) (.cells #[.string K] 9)) (.map #[] 0)) (.cells #[.map (some (w.heap.size + 1))] 49)) (.stringIter S 0)
    rw [← h1, ← h2, ← h3] at b
    exact b
theorem WP.start {N : Nat} {w wr W5 : World} {bk bs bm base : Nat} {K : ByteArray} {t : Nat} {No : Nat → Prop} (h : NoteAt wr bk bs bm base K t No) (hB : Below N w wr) (hN : w.heap.size = N) (lo : N ≤ bk ∧ N ≤ bs ∧ N ≤ bm ∧ N ≤ base) (hNk : No bk) (hNs : No bs) (f : Nat)
    (h5 : W5 = (wr.alloc (.cells #[.slice none 0 0] 34)).alloc (.cells #[.int .i64 f] 3)) : WP N w W5 bk bs bm base (wr.heap.size + 1) wr.heap.size K t f (.slice none 0 0) [] := by
  obtain ⟨w4, h4⟩ : ∃ w4, w4 = wr.alloc (.cells #[.slice none 0 0] 34) := ⟨_, rfl⟩
  have s4 : w4.heap.size = wr.heap.size + 1 := by rw [h4]; simp
  rw [← h4] at h5
  have s5 : W5.heap.size = wr.heap.size + 1 + 1 := by rw [h5]; simp [s4]
  have g4 : wr.grownBy w4 none := by rw [h4]; exact World.grownBy_alloc _ _ _
  have g5 : w4.grownBy W5 none := by rw [h5]; exact World.grownBy_alloc _ _ _
  have n4 := h.kept g4 fun j hj => by cases hj
  have n5 := n4.kept g5 fun j hj => by cases hj
  obtain ⟨n, D, hnt, hown, hrd⟩ := h.own
  have hNb := hB.size
  have sh := ((h.sh.reno (No' := NoW bk bs (wr.heap.size + 1) wr.heap.size (.slice none 0 0)) hown fun g hg => by
    rcases hg with rfl | rfl | rfl | rfl | h1
    · exact .inl hNk
    · exact .inl hNs
    · exact .inr (Nat.le_succ _)
    · exact .inr (Nat.le_refl _)
    · cases h1).kept g4 h.lt (by simp)).kept g5 n4.lt (by simp)
  have bo4 : w4.heap[wr.heap.size]? = some (.cells #[.slice none 0 0] 34 (0, 0)) := by rw [h4]; exact heap_alloc_new wr _
  refine ⟨⟨n5.k, n5.s, n5.own, sh, n5.hb, fun g hg => ?_⟩, ⟨?_, (g5.block _ (by rw [s4]; omega) (by simp)).trans bo4, n5.k, .inl ⟨rfl, rfl, by rw [s5]; omega⟩⟩, hB.trans ⟨g5.os.trans g4.os, g5.tape.trans g4.tape, g5.output.trans g4.output, Nat.le_trans g4.size g5.size, fun k hk => ?_⟩, by omega⟩
  · rcases hg with rfl | rfl | rfl | rfl | h1
    · exact block_lt n5.k
    · exact block_lt n5.s
    · rw [s5]; omega
    · rw [s5]; omega
    · cases h1
  · rw [h5, ← s4]
    exact heap_alloc_new w4 _
  · exact (g5.block k (by omega) (by simp)).trans (g4.block k (by omega) (by simp))
end Go.Proofs.Ytbelofikknfoaaa
