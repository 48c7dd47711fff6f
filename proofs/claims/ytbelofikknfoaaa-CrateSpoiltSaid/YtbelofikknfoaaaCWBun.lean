/- window.Pack: its closures' cells and what has been laid, together. -/
import Derived.Test.YtbelofikknfoaaaCStretchW
namespace Go.Proofs.Ytbelofikknfoaaa
open Go.RowKit Go.Maps Go.ChangeShapes Go.WideMaps Go.MapKept
set_option maxHeartbeats 1000000
theorem nodup_key {es : List MapEntry} (h : (es.map (·.key)).Nodup) {x y : MapEntry} (hx : x ∈ es) (hy : y ∈ es) (he : x.key = y.key) : x = y := by
  induction es with
  | nil => cases hx
  | cons e es ih =>
    rw [List.map_cons, List.nodup_cons] at h
    rcases List.mem_cons.1 hx with e1 | hx' <;> rcases List.mem_cons.1 hy with e2 | hy'
    · rw [e1, e2]
    · exact absurd (List.mem_map.2 ⟨y, hy', by rw [← he, e1]⟩) h.1
    · exact absurd (List.mem_map.2 ⟨x, hx', by rw [he, e2]⟩) h.1
    · exact ih h.2 hx' hy'
theorem look_same {w w' : World} {base b n : Nat} {D : DataW Unit} {key v : Value} {kl : Lit} (h : w.ownsGroups Try.prog 9 base 3 .i64 b n D) (hb' : w'.heap = w.heap) (h' : w'.ownsGroups Try.prog 9 base 3 .i64 b n D) (hkey : keyOf Try.prog 9 key = some kl)
    (hr : (Instr.lookup 49 (.map (some b)) key false).run Try.prog w = .ok v w) : (Instr.lookup 49 (.map (some b)) key false).run Try.prog w' = .ok v w' := by
  obtain ⟨es, clock, hb, F, -⟩ := h
  obtain ⟨es2, clock2, hb2, F2, -⟩ := h'
  obtain ⟨rfl, rfl⟩ : es2 = es ∧ clock2 = clock := by rw [hb', hb] at hb2; simpa using hb2.symm
  rcases Maps.fit_look false law Try.underlying49 (zeroInts w) hb F hkey with ⟨r1, n1, -⟩ | ⟨e0, y, m1, k1, r1, -⟩ <;> rcases Maps.fit_look false law Try.underlying49 (zeroInts w') hb2 F2 hkey with ⟨r2, n2, -⟩ | ⟨e2, y2, m2, k2, r2, -⟩
  · rw [r1] at hr
    rw [r2, ← (Result.ok.inj hr).1]
  · exact absurd k2 (n1 e2 m2)
  · exact absurd k1 (n2 e0 m1)
  · obtain rfl := nodup_key F.stamped.2.2 m1 m2 (k1.trans k2.symm)
    rw [r1] at hr
    rw [r2, ← (Result.ok.inj hr).1]
theorem NoteAt.look {W : World} {bk bs bm base : Nat} {K : ByteArray} {t : Nat} {No : Nat → Prop} (h : NoteAt W bk bs bm base K t No) {a : Nat} (ha : a + 4 ≤ K.size) (ht : t ≤ 1073741824) (hK : K.size ≤ 1073741824) :
    ∃ (q : Option Addr) (zs : List Nat) (c : Nat), zs = occ K.data.toList t ((K.data.toList.drop a).take 4) ∧ (∀ m, (Instr.lookup 49 (.map (some bm)) (.string (K.extract a (a + 4))) false).run Try.prog (W.drewN m) = .ok (.slice q zs.length c) (W.drewN m)) ∧ ∀ j, j < zs.length → ∃ g, q = some ⟨g, 0, none⟩ ∧ W.cell? ⟨g, j, none⟩ = some (.int .i64 (zs.getD j 0 : Nat)) := by
  have hl : K.data.toList.length = K.size := rfl
  obtain ⟨n, D, hnt, hown, hrd⟩ := h.own
  obtain ⟨key, hkd⟩ : ∃ key, key = (K.data.toList.drop a).take 4 := ⟨_, rfl⟩
  have hxe : (K.extract a (a + 4)).data.toList = key := by rw [ByteArray.data_extract, Array.toList_extract, hkd]; show List.take (a + 4 - a) _ = _; rw [show a + 4 - a = 4 by omega]
  have hk4 : key.length = 4 := by rw [hkd, List.length_take, List.length_drop, hl]; omega
  have hkey : keyOf Try.prog 9 (.string (K.extract a (a + 4))) = some (.string key) := by
    rw [← hxe]
    exact keyOf_string_mk Try.underlying9 (by show _ ≤ maxLen; rw [ByteArray.size_extract]; unfold maxLen; omega)
  obtain ⟨v, ys, hrun, hat, hoi, hyl, -, -⟩ := groups_look hown (by unfold maxLen; omega) hkey
  have hys : ys = ints (occ K.data.toList t key) := row_is hoi (by rw [← hrd key hk4, hat])
  have hlen : ys.length = (occ K.data.toList t key).length := by rw [hys]; simp [ints]
  have hall : ∀ m, (Instr.lookup 49 (.map (some bm)) (.string (K.extract a (a + 4))) false).run Try.prog (W.drewN m) = .ok v (W.drewN m) := fun m => look_same hown rfl hown hkey hrun
  rw [← hkd]
  rcases hoi.1.2 with ⟨rfl, h0⟩ | ⟨g, cap, cur, rfl, -⟩
  · refine ⟨none, _, 0, rfl, fun m => ?_, fun j hj => by omega⟩
    rw [← hlen, h0]
    exact hall m
  · refine ⟨some ⟨g, 0, none⟩, _, cap, rfl, fun m => ?_, fun j hj => ⟨g, rfl, ?_⟩⟩
    · rw [← hlen]
      exact hall m
    · rw [hoi.1.cellAt j (by omega), hys]
      simp [ints, List.getElem?_eq_getElem hj, List.getD]
/-- over a step of out's -/
theorem NoteAt.sw {W W' : World} {bk bs bm base bo : Nat} {K : ByteArray} {t : Nat} {No No' : Nat → Prop} {v v' : Value} (h : NoteAt W bk bs bm base K t No) (hT : SwTurn W W' bo v v') (hbo : No bo ∧ bo ≠ bk ∧ bo ≠ bs ∧ bo ≠ bm) (hv : ∀ j, v.ownBlock = some j → No j ∧ j ≠ bk ∧ j ≠ bs ∧ j ≠ bm) (hn : ∀ g, No' g → No g ∨ W.heap.size ≤ g) (hlo : ∀ g, No' g → g < W'.heap.size) : NoteAt W' bk bs bm base K t No' := by
  obtain ⟨ob, hob⟩ : ∃ o, W.heap[bo]? = some o := ⟨_, Array.getElem?_eq_getElem (h.lo bo hbo.1)⟩
  obtain ⟨Wm, hWm⟩ : ∃ Wm : World, Wm = { W' with heap := W'.heap.setIfInBounds bo ob } := ⟨_, rfl⟩
  have hsz : Wm.heap.size = W'.heap.size := by rw [hWm]; simp
  have hbl : bo < W'.heap.size := Nat.lt_of_lt_of_le (h.lo bo hbo.1) hT.size
  have hm1 : ∀ j, j ≠ bo → Wm.heap[j]? = W'.heap[j]? := fun j hj => by
    rw [hWm]
    show (W'.heap.setIfInBounds bo ob)[j]? = _
    rw [Array.getElem?_setIfInBounds_ne (Ne.symm hj)]
  have hm2 : Wm.heap[bo]? = some ob := by
    rw [hWm]
    show (W'.heap.setIfInBounds bo ob)[bo]? = _
    rw [Array.getElem?_setIfInBounds_self_of_lt hbl]
  have g1 : W.grownBy Wm v.ownBlock := by
    refine ⟨?_, ?_, ?_, by rw [hsz]; exact hT.size, fun j hj hne => ?_⟩
    · rw [hWm]; exact hT.os
    · rw [hWm]; exact hT.tape
    · rw [hWm]; exact hT.output
    · by_cases e : j = bo
      · subst e; rw [hm2, hob]
      · rw [hm1 j e]; exact hT.block j hj e fun e2 => hne e2.symm
  have g2 : Wm.grownBy W' (some bo) := by
    refine ⟨?_, ?_, ?_, by rw [hsz]; exact Nat.le_refl _, fun j hj hne => (hm1 j fun e => hne (by rw [e])).symm⟩
    · rw [hWm]
    · rw [hWm]
    · rw [hWm]
  have h1 := h.kept g1 hv
  have h2 := h1.kept g2 fun j hj => by cases hj; exact hbo
  obtain ⟨n, D, hnt, hown, hrd⟩ := h.own
  have s1 := (h.sh.reno hown hn).kept g1 h.lt fun e => (hv bm e.symm).2.2.2 rfl
  have s2 := s1.kept g2 h1.lt fun e => hbo.2.2.2 (by injection e with e; exact e.symm)
  exact ⟨h2.k, h2.s, h2.own, s2, h2.hb, hlo⟩
def NoW (bk bs bf bo : Nat) (v : Value) : Nat → Prop := fun j => j = bk ∨ j = bs ∨ j = bf ∨ j = bo ∨ v.ownBlock = some j
/-- all of it -/
structure WP (N : Nat) (w W : World) (bk bs bm base bf bo : Nat) (K : ByteArray) (t f : Nat) (v : Value) (O : List UInt8) : Prop where
  note : NoteAt W bk bs bm base K t (NoW bk bs bf bo v)
  st : StW N W bf bo bk K f v O
  below : Below N w W
  lo : N ≤ bk ∧ N ≤ bs ∧ N ≤ bm ∧ N ≤ base ∧ N ≤ bf ∧ N ≤ bo
section
variable {N : Nat} {w W W' : World} {bk bs bm base bf bo : Nat} {K : ByteArray} {t f : Nat} {v v' : Value} {O O' : List UInt8}
theorem WP.rowlt (h : WP N w W bk bs bm base bf bo K t f v O) {j : Nat} (hj : v.ownBlock = some j) : j < W.heap.size := h.st.own.lt_size hj
theorem ne_of_map {W : World} {a b : Nat} {cs : Array Value} {t : TypeId} {fr : Nat × Nat} {es : Array MapEntry} {clock : Nat} (ha : W.heap[a]? = some (.cells cs t fr)) (hb : W.heap[b]? = some (.map es clock)) : a ≠ b := by
  intro e
  subst e
  rw [ha] at hb
  cases hb
theorem WP.row (h : WP N w W bk bs bm base bf bo K t f v O) {j : Nat} (hj : v.ownBlock = some j) : NoW bk bs bf bo v j ∧ j ≠ bk ∧ j ≠ bs ∧ j ≠ bm := by
  obtain ⟨es, clock, hb⟩ := h.note.map
  refine ⟨.inr (.inr (.inr (.inr hj))), h.st.own.row_ne hj h.note.k (by decide), h.st.own.row_ne hj h.note.s (by decide), fun e => ?_⟩
  rcases h.st.own with ⟨h1, -, -⟩ | ⟨g, cap, rest, fr, h1, -, hh, -⟩
  · rw [h1] at hj; cases hj
  · rw [h1] at hj
    simp [Value.ownBlock] at hj
    subst hj
    exact ne_of_map hh hb e
theorem WP.noted (h : WP N w W bk bs bm base bf bo K t f v O) {t' : Nat} (hn : NoteAt W' bk bs bm base K t' (NoW bk bs bf bo v)) (hT : NTurn W W' bm base (NoW bk bs bf bo v)) : WP N w W' bk bs bm base bf bo K t' f v O := by
  obtain ⟨es, clock, hb⟩ := h.note.map
  have kf := hT.block bf (block_lt h.st.f) (ne_of_map h.st.f hb) (.inl (.inr (.inr (.inl rfl))))
  have ko := hT.block bo (block_lt h.st.o) (ne_of_map h.st.o hb) (.inl (.inr (.inr (.inr (.inl rfl)))))
  refine ⟨hn, ⟨kf.trans h.st.f, ko.trans h.st.o, hn.k, h.st.own.keep hT.size fun j hj => hT.block j (h.rowlt hj) (h.row hj).2.2.2 (.inl (h.row hj).1)⟩, h.below.trans ⟨hT.os, hT.tape, hT.output, hT.size, fun j hj => ?_⟩, h.lo⟩
  have := block_lt h.note.k
  have := h.lo
  exact hT.block j (by omega) (by omega) (.inr (by omega))
theorem WP.laid (h : WP N w W bk bs bm base bf bo K t f v O) (hs : StW N W' bf bo bk K f v' O') (hT : SwTurn W W' bo v v') (hv : ∀ j, v'.ownBlock = some j → j < W'.heap.size) : WP N w W' bk bs bm base bf bo K t f v' O' := by
  obtain ⟨es, clock, hb⟩ := h.note.map
  have hne := h.st.ne
  refine ⟨h.note.sw hT ⟨.inr (.inr (.inr (.inl rfl))), hne.2.2, ne_of_types h.st.o h.note.s (by decide), ne_of_map h.st.o hb⟩ (fun j hj => h.row hj) (fun g hg => ?_) (fun g hg => ?_), hs, h.below.trans ⟨hT.os, hT.tape, hT.output, hT.size, fun j hj => ?_⟩, h.lo⟩
  · rcases hg with h1 | h1 | h1 | h1 | h1
    · exact .inl (.inl h1)
    · exact .inl (.inr (.inl h1))
    · exact .inl (.inr (.inr (.inl h1)))
    · exact .inl (.inr (.inr (.inr (.inl h1))))
    · exact (hT.new g h1).imp (fun h2 => .inr (.inr (.inr (.inr h2)))) id
  · rcases hg with rfl | rfl | rfl | rfl | h1
    · exact block_lt hs.k
    · exact Nat.lt_of_lt_of_le (block_lt h.note.s) hT.size
    · exact block_lt hs.f
    · exact block_lt hs.o
    · exact hv g h1
  · have := block_lt h.note.k
    have := h.lo
    refine hT.block j (by omega) (by omega) fun e => ?_
    have hlo : N ≤ j := by
      rcases h.st.own with ⟨h1, -, -⟩ | ⟨g, cap, rest, fr, h1, hg, -⟩
      · rw [h1] at e; cases e
      · rw [h1] at e
        simp [Value.ownBlock] at e
        omega
    omega
theorem StW.rowlt (h : StW N W bf bo bk K f v O) {j : Nat} (hj : v.ownBlock = some j) : j < W.heap.size := h.own.lt_size hj
/-- 'from' is set -/
theorem WP.from (h : WP N w W bk bs bm base bf bo K t f v O) (a : Nat) : WP N w (W.setCell ⟨bf, 0, none⟩ (.int .i64 a)) bk bs bm base bf bo K t a v O := by
  obtain ⟨es, clock, hb⟩ := h.note.map
  have hne := h.st.ne
  have hg : W.grownBy (W.setCell ⟨bf, 0, none⟩ (.int .i64 a)) (some bf) := ⟨rfl, rfl, rfl, by simp [World.setCell], fun j hj hn => heap_setCell_other _ _ _ _ fun e => hn (by rw [e])⟩
  refine ⟨h.note.kept hg fun j hj => ?_, ⟨set_row (i := 0) (cs := [.int .i64 (f : Int)]) h.st.f (.int .i64 (a : Int)), (heap_setCell_other _ _ _ _ (Ne.symm hne.1)).trans h.st.o, (heap_setCell_other _ _ _ _ (Ne.symm hne.2.1)).trans h.st.k, h.st.own.keep hg.size fun j hj => heap_setCell_other _ _ _ _ (h.st.own.row_ne hj h.st.f (by decide))⟩, h.below.trans ⟨rfl, rfl, rfl, hg.size, fun j hj => heap_setCell_other _ _ _ _ (by show j ≠ bf; have := h.lo; omega)⟩, h.lo⟩
  cases hj
  exact ⟨.inr (.inr (.inl rfl)), hne.2.1, ne_of_types h.st.f h.note.s (by decide), ne_of_map h.st.f hb⟩
/-- a new block is laid -/
theorem WP.alloc (h : WP N w W bk bs bm base bf bo K t f v O) (o : Obj) : WP N w (W.alloc o) bk bs bm base bf bo K t f v O := by
  have hb := bw_alloc (Below.refl W.heap.size W) o
  have hN : N ≤ W.heap.size := h.st.own.lt
  exact ⟨h.note.kept (World.grownBy_alloc _ _ none) (fun j hj => by cases hj), ⟨keep_row hb h.st.f, keep_row hb h.st.o, keep_row hb h.st.k, h.st.own.below hb (Nat.le_refl _)⟩, h.below.alloc hN o, h.lo⟩
theorem WP.drewN (h : WP N w W bk bs bm base bf bo K t f v O) (n : Nat) : WP N w (W.drewN n) bk bs bm base bf bo K t f v O :=
  ⟨⟨h.note.k, h.note.s, h.note.own, h.note.sh, h.note.hb, h.note.lo⟩, ⟨h.st.f, h.st.o, h.st.k, h.st.own⟩, bw_drewN h.below n, h.lo⟩
/-- out's new row is laid into its cell -/
theorem WP.out {w5 : World} (h : WP N w W bk bs bm base bf bo K t f v O) (hO : OwnB N v' O' w5) (hB : Below N W w5) (hk : ∀ k, k < W.heap.size → v.ownBlock ≠ some k → w5.heap[k]? = W.heap[k]?) (hn : OwnNew W v v') : WP N w (w5.setCell ⟨bo, 0, none⟩ v') bk bs bm base bf bo K t f v' O' := by
  have hne := h.st.ne
  have row : ∀ j cs ty fr, W.heap[j]? = some (Obj.cells cs ty fr) → ty ≠ 5 → w5.heap[j]? = W.heap[j]? := fun j cs ty fr hj ht => hk j (block_lt hj) fun e => h.st.own.row_ne e hj ht rfl
  have f5 := (row bf _ _ _ h.st.f (by decide)).trans h.st.f
  have o5 := (row bo _ _ _ h.st.o (by decide)).trans h.st.o
  have k5 := (row bk _ _ _ h.st.k (by decide)).trans h.st.k
  have hZ : OwnZ N v' O' w5 := .inr hO
  have hsz : (w5.setCell ⟨bo, 0, none⟩ v').heap.size = w5.heap.size := by simp [World.setCell]
  have own : OwnZ N v' O' (w5.setCell ⟨bo, 0, none⟩ v') := hZ.keep (by rw [hsz]; exact Nat.le_refl _) fun k hk => heap_setCell_other _ _ _ _ (hZ.row_ne hk o5 (by decide))
  refine h.laid ⟨(heap_setCell_other _ _ _ _ hne.1).trans f5, set_row (i := 0) (cs := [v]) o5 v', (heap_setCell_other _ _ _ _ (Ne.symm hne.2.2)).trans k5, own⟩ ⟨hB.os, hB.tape, hB.output, by rw [hsz]; exact hB.size, fun j hj h1 h2 => (heap_setCell_other _ _ _ _ h1).trans (hk j hj h2), hn⟩ fun j hj => own.lt_size hj
/-- .. behind the bytes that are laid first -/
theorem WP.out2 {w5 : World} {o : Obj} (h : WP N w W bk bs bm base bf bo K t f v O) (hO : OwnB N v' O' w5) (hB : Below N (W.alloc o) w5) (hk : ∀ k, k < (W.alloc o).heap.size → v.ownBlock ≠ some k → w5.heap[k]? = (W.alloc o).heap[k]?) (hn : OwnNew (W.alloc o) v v') : WP N w (w5.setCell ⟨bo, 0, none⟩ v') bk bs bm base bf bo K t f v' O' :=
  (h.alloc o).out hO hB hk hn
end
end Go.Proofs.Ytbelofikknfoaaa
