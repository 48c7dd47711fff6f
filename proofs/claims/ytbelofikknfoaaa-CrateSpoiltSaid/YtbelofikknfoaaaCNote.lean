/- window: what is noted where. -/
import Derived.Test.YtbelofikknfoaaaCOcc
import Derived.Test.YtbelofikknfoaaaCTwo
import Derived.Maps.GroupsBeside
namespace Go.Proofs.Ytbelofikknfoaaa
open Go.RowKit Go.Maps Go.ChangeShapes Go.WideMaps Go.MapKept
set_option maxHeartbeats 1000000
theorem law : Keyed Try.prog 9 := string_keyed Try.underlying9
theorem int_info : (Try.prog.info? 3).map (fun i => (i.zero, i.size, i.bytes)) = some (some (.int .i64 0), 1, 8) := by kernel_rfl
theorem zeroInts (w : World) : (zeroValue 50).run Try.prog w = .ok (.slice none 0 0) w := by kernel_rfl
def ints (zs : List Nat) : List Int := zs.map fun (z : Nat) => (z : Int)
theorem ints_snoc (zs : List Nat) (z : Nat) : ints (zs ++ [z]) = ints zs ++ [(z : Int)] := by simp [ints]
def rowLit (zs : List Nat) : DataW Unit := if zs = [] then .nil else .slice (lits .i64 (ints zs)) []
theorem row_is {w : World} {base : Nat} {e : TypeId} {v : Value} {ys : List Int} {zs : List Nat} (h : w.ownsInts base e .i64 v ys) (hd : rowLit zs = rowDatum .i64 v ys) : ys = ints zs := by
  have hinj : ∀ a b : List Int, lits (H := Unit) .i64 a = lits .i64 b → a = b := fun a b hab => (List.map_inj_right (fun x y hxy => by cases hxy; rfl)).1 hab
  unfold rowLit at hd
  rcases h.datum (H := Unit) with ⟨h1, rfl⟩ | h1
  · rw [h1] at hd
    split at hd
    · rename_i hz; rw [hz]; rfl
    · cases hd
  · rw [h1] at hd
    split at hd
    · cases hd
    · injection hd with hd
      exact (hinj _ _ hd).symm
theorem groups_look {w : World} {base b n : Nat} {D : DataW Unit} {key : Value} {kl : Lit} (h : w.ownsGroups Try.prog 9 base 3 .i64 b n D) (hn : n < maxLen) (hkey : keyOf Try.prog 9 key = some kl) :
    ∃ v zs, (Instr.lookup 49 (.map (some b)) key false).run Try.prog w = .ok v w ∧ D.atKey kl .nil = rowDatum .i64 v zs ∧ w.ownsInts base 3 .i64 v zs ∧ zs.length ≤ n ∧ w.groupBack Try.prog 49 9 base 3 .i64 b n D key kl v ∧ ∀ No : Nat → Prop, w.Shuns b No → ∀ g, v.ownBlock = some g → ¬ No g := by
  obtain ⟨v, zs, hrun, hat, hoi, hzl, hback⟩ := h.at law Try.underlying49 (zeroInts w) hn hkey
  refine ⟨v, zs, hrun, hat, hoi, hzl, hback, fun No hs g hg => ?_⟩
  obtain ⟨es, clock, hb, F, -⟩ := h
  rcases Maps.fit_look false law Try.underlying49 (zeroInts w) hb F hkey with ⟨hr, -, -⟩ | ⟨e0, y, hm, -, hr, -, -, -⟩
  · rw [hrun] at hr
    obtain ⟨rfl, -⟩ := Result.ok.inj hr
    cases hg
  · rw [hrun] at hr
    obtain ⟨rfl, -⟩ := Result.ok.inj hr
    exact hs es clock hb e0 hm g hg
/-- what the closure 'note' sees: the text, the map, what stands in it -/
structure NoteAt (W : World) (bk bs bm base : Nat) (K : ByteArray) (t : Nat) (No : Nat → Prop) : Prop where
  k : W.heap[bk]? = some (.cells #[.string K] 9 (0, 0))
  s : W.heap[bs]? = some (.cells #[.map (some bm)] 49 (0, 0))
  own : ∃ (n : Nat) (D : DataW Unit), n ≤ t ∧ W.ownsGroups Try.prog 9 base 3 .i64 bm n D ∧ ∀ key : List UInt8, key.length = 4 → D.atKey (.string key) .nil = rowLit (occ K.data.toList t key)
  sh : W.Shuns bm No
  hb : base ≤ W.heap.size
  lo : ∀ j, No j → j < W.heap.size
structure NTurn (W W' : World) (bm base : Nat) (No : Nat → Prop) : Prop where
  os : W'.os = W.os
  tape : W'.tape = W.tape
  output : W'.output = W.output
  size : W.heap.size ≤ W'.heap.size
  block : ∀ k, k < W.heap.size → k ≠ bm → (No k ∨ k < base) → W'.heap[k]? = W.heap[k]?
theorem NoteAt.map {W : World} {bk bs bm base : Nat} {K : ByteArray} {t : Nat} {No : Nat → Prop} (h : NoteAt W bk bs bm base K t No) : ∃ es clock, W.heap[bm]? = some (.map es clock) := by
  obtain ⟨n, D, -, ⟨es, clock, hb, -⟩, -⟩ := h.own
  exact ⟨es, clock, hb⟩
theorem NoteAt.ne {W : World} {bk bs bm base : Nat} {K : ByteArray} {t : Nat} {No : Nat → Prop} (h : NoteAt W bk bs bm base K t No) : bk ≠ bm ∧ bs ≠ bm := by
  obtain ⟨es, clock, hb⟩ := h.map
  refine ⟨fun e => ?_, fun e => ?_⟩
  · subst e; rw [h.k] at hb; cases hb
  · subst e; rw [h.s] at hb; cases hb
theorem NoteAt.lt {W : World} {bk bs bm base : Nat} {K : ByteArray} {t : Nat} {No : Nat → Prop} (h : NoteAt W bk bs bm base K t No) : bm < W.heap.size := by
  obtain ⟨es, clock, hb⟩ := h.map
  exact block_lt hb
/-- over whatever turns blocks of which No holds, or that lie below the rows -/
theorem NoteAt.kept {W W' : World} {bk bs bm base : Nat} {K : ByteArray} {t : Nat} {No : Nat → Prop} (h : NoteAt W bk bs bm base K t No) {row : Option Nat} (hg : W.grownBy W' row) (hr : ∀ j, row = some j → No j ∧ j ≠ bk ∧ j ≠ bs ∧ j ≠ bm) : NoteAt W' bk bs bm base K t No := by
  obtain ⟨n, D, hn, hown, hrd⟩ := h.own
  have hne : ∀ b, b ≠ bk ∨ True → (∀ j, row = some j → j ≠ b) → some b ≠ row := fun b _ hb e => hb b e.symm rfl
  have hm : some bm ≠ row := fun e => (hr bm e.symm).2.2.2 rfl
  exact ⟨(hg.block bk (block_lt h.k) fun e => (hr bk e.symm).2.1 rfl).trans h.k, (hg.block bs (block_lt h.s) fun e => (hr bs e.symm).2.2.1 rfl).trans h.s, ⟨n, D, hn, hown.kept hg hm (h.sh.rowsOff fun j hj => (hr j hj).1), hrd⟩, h.sh.kept hg h.lt hm, Nat.le_trans h.hb hg.size, fun j hj => Nat.lt_of_lt_of_le (h.lo j hj) hg.size⟩
theorem NoteAt.reno {W : World} {bk bs bm base : Nat} {K : ByteArray} {t : Nat} {No No' : Nat → Prop} (h : NoteAt W bk bs bm base K t No) (hn : ∀ g, No' g → No g ∨ W.heap.size ≤ g) (hlo : ∀ g, No' g → g < W.heap.size) : NoteAt W bk bs bm base K t No' := by
  obtain ⟨n, D, hnt, hown, hrd⟩ := h.own
  exact ⟨h.k, h.s, ⟨n, D, hnt, hown, hrd⟩, h.sh.reno hown hn, h.hb, hlo⟩
/-- where four bytes do not fit nothing is noted -/
theorem NoteAt.skip {W : World} {bk bs bm base : Nat} {K : ByteArray} {t : Nat} {No : Nat → Prop} (h : NoteAt W bk bs bm base K t No) (ht : K.size < t + 4) : NoteAt W bk bs bm base K (t + 1) No := by
  have hl : K.data.toList.length = K.size := rfl
  obtain ⟨n, D, hnt, hown, hrd⟩ := h.own
  exact ⟨h.k, h.s, ⟨n, D, by omega, hown, fun key hk => by rw [hrd key hk, occ_miss (fun e => by have := congrArg List.length e; rw [List.length_take, List.length_drop, hl] at this; omega)]⟩, h.sh, h.hb, h.lo⟩
theorem note_end {W0 W5 : World} {bk bs bm base x : Nat} {K : ByteArray} {t : Nat} {No : Nat → Prop} (h : NoteAt W0 bk bs bm base K t No) (hg : W0.grownBy W5 none) (hx : W5.heap[x]? = some (.cells #[.int .i64 (t : Int)] 3 (0, 0))) (ht : t + 4 ≤ K.size) (hK : K.size ≤ 1073741824) (hNk : No bk) (hNs : No bs) :
    ∃ v, (Instr.lookup 49 (.map (some bm)) (.string (K.extract t (t + 4))) false).run Try.prog W0 = .ok v W0 ∧ ∃ v' w6, (Builtin.append_ #[50, 50] 50 #[v, .slice (some ⟨x, 0, none⟩) 1 1]).run Try.prog W5 = .ok v' w6 ∧ ∃ w7, (Instr.mapUpdate 49 (.map (some bm)) (.string (K.extract t (t + 4))) v').run Try.prog w6 = .ok () w7 ∧
      w6.cell? ⟨bs, 0, none⟩ = some (.map (some bm)) ∧ w7.cell? ⟨bs, 0, none⟩ = some (.map (some bm)) ∧ NoteAt w7 bk bs bm base K (t + 1) No ∧ NTurn W0 w7 bm base No := by
  have hl : K.data.toList.length = K.size := rfl
  obtain ⟨n, D, hnt, hown, hrd⟩ := h.own
  have hne := h.ne
  obtain ⟨key, hkd⟩ : ∃ key, key = (K.data.toList.drop t).take 4 := ⟨_, rfl⟩
  have hxe : (K.extract t (t + 4)).data.toList = key := by rw [ByteArray.data_extract, Array.toList_extract, hkd]; show List.take (t + 4 - t) _ = _; rw [show t + 4 - t = 4 by omega]
  have hk4 : key.length = 4 := by rw [hkd, List.length_take, List.length_drop, hl]; omega
  have hkey : keyOf Try.prog 9 (.string (K.extract t (t + 4))) = some (.string key) := by
    rw [← hxe]
    exact keyOf_string_mk Try.underlying9 (by show _ ≤ maxLen; rw [ByteArray.size_extract]; unfold maxLen; omega)
  obtain ⟨v, ys, hrun, hat, hoi, hyl, hback, hsu⟩ := groups_look hown (by unfold maxLen; omega) hkey
  have hys : ys = ints (occ K.data.toList t key) := row_is hoi (by rw [← hrd key hk4, hat])
  have hoi5 : W5.ownsInts base 3 .i64 v ys := hoi.kept hg (by cases v.ownBlock <;> simp)
  obtain ⟨i0, hi, hz0, hz1, hz2⟩ := info_parts int_info
  obtain ⟨v', w6, hr6, hown6, hgr6, hnil, hloc⟩ := run_append_own_at (P := Try.prog) (w := W5) base 50 50 3 i0 (.int .i64 0) 1 8 Try.underlying50 hi hz0 hz1 hz2 rfl (by decide) v ys.length (ys.map (Value.int .i64)) hoi5.1 ⟨x, 0, none⟩ 1 1 [.int .i64 (t : Int)] rfl (fun j u hj => by
    cases j with
    | zero =>
      simp at hj
      subst hj
      show W5.cell? ⟨x, 0, none⟩ = _
      exact cell_of_one hx
    | succ j => simp at hj) (by simp [Value.oneCell']) (by unfold maxLen; omega) (by omega) (Nat.le_trans h.hb hg.size)
  have wf : (Lit.int .i64 (t : Int)).wf = true := WalkArith.wf_i64 (by omega)
  have hoi6 := hoi5.appended hown6 wf
  have hall : W0.grownBy w6 v.ownBlock := ⟨hgr6.os.trans hg.os, hgr6.tape.trans hg.tape, hgr6.output.trans hg.output, Nat.le_trans hg.size hgr6.size, fun k hk hne => (hgr6.block k (Nat.lt_of_lt_of_le hk hg.size) hne).trans (hg.block k hk (by simp))⟩
  have hloc2 : v'.ownBlock = v.ownBlock ∨ ∃ g, v'.ownBlock = some g ∧ W0.heap.size ≤ g := hloc.imp id fun h => ⟨_, h, hg.size⟩
  obtain ⟨w7, hr7, hown7, hgr7⟩ := hback w6 v' (ys ++ [(t : Int)]) hall hoi6 (by rw [List.length_append]; simp; omega) hloc2
  have nok : ∀ j, No j ∨ j < base → some j ≠ v.ownBlock := fun j hj e => by
    rcases hj with hj | hj
    · exact hsu No h.sh j e.symm hj
    · have := (hoi.1.lt j e.symm).1; omega
  have keep6 : ∀ j, j < W0.heap.size → No j ∨ j < base → w6.heap[j]? = W0.heap[j]? := fun j hj hn => hall.block j hj (nok j hn)
  have keep7 : ∀ j, j < W0.heap.size → j ≠ bm → No j ∨ j < base → w7.heap[j]? = W0.heap[j]? := fun j hj hm hn => (hgr7.block j (Nat.lt_of_lt_of_le hj hall.size) fun e => hm (Option.some.inj e)).trans (keep6 j hj hn)
  refine ⟨v, hrun, v', w6, hr6, w7, hr7, cell_of_one ((keep6 bs (block_lt h.s) (.inl hNs)).trans h.s), cell_of_one ((keep7 bs (block_lt h.s) hne.2 (.inl hNs)).trans h.s), ⟨(keep7 bk (block_lt h.k) hne.1 (.inl hNk)).trans h.k, (keep7 bs (block_lt h.s) hne.2 (.inl hNs)).trans h.s, ⟨n + 1, _, by omega, hown7, fun k' hk' => ?_⟩, ?_, Nat.le_trans h.hb (Nat.le_trans hall.size hgr7.size), fun j hj => Nat.lt_of_lt_of_le (h.lo j hj) (Nat.le_trans hall.size hgr7.size)⟩, ⟨hgr7.os.trans hall.os, hgr7.tape.trans hall.tape, hgr7.output.trans hall.output, Nat.le_trans hall.size hgr7.size, keep7⟩⟩
  · by_cases hkk : k' = key
    · subst hkk
      have hD : IsMap D := by
        obtain ⟨es, clock, -, -, -, rfl, -⟩ := hown
        exact ⟨_, rfl⟩
      rw [atKey_put_same hD (show WideAt.IsKeyLit (.string k') from trivial), hoi6.datum_pos (by simp), occ_hit hkd.symm, rowLit, if_neg (by simp), ints_snoc, hys]
    · rw [atKey_put_other (fun e => hkk (by injection e)), hrd k' hk', occ_miss (fun e => hkk (by rw [← e, hkd]))]
  · obtain ⟨es, clock, hb, F, hsz, -⟩ := hown
    have hb6 : w6.heap[bm]? = some (.map es clock) := (hall.block bm h.lt fun e => by
      have := (hoi.1.lt bm e.symm).1
      obtain ⟨n2, D2, -, hown2, -⟩ := h.own
      obtain ⟨es2, clock2, -, -, -, -, hbb, -⟩ := hown2
      omega).trans hb
    obtain ⟨es', clock', hb7, hwho⟩ := stored_who law Try.underlying49 hb6 F (Nat.lt_of_le_of_lt hsz (by unfold maxLen; omega)) hkey hr7
    intro es2 clock2 hb2 y hy g hyg
    obtain ⟨rfl, rfl⟩ : es' = es2 ∧ clock' = clock2 := by rw [hb7] at hb2; simpa using hb2
    rcases hwho y hy with ⟨hy0, -⟩ | ⟨-, hval⟩
    · exact h.sh es clock hb y hy0 g hyg
    · rw [hval] at hyg
      rcases hloc with h1 | h1
      · exact hsu No h.sh g (h1 ▸ hyg)
      · rw [h1] at hyg
        cases hyg
        intro hN
        have := h.lo _ hN
        have := hg.size
        omega
end Go.Proofs.Ytbelofikknfoaaa
