/- window: what is noted where. window.Pack's closure 'note': what the call does. window.Pack's closure 'stretch': what the call does. window.Pack: its closures' cells and what has been laid, together. window.Pack: before the static text is noted; a range over a string, whatever lies behind its iterator. cavalcaderef07.Pack: what the call does. window.Pack: what the call does. -/
import Derived.Test.YtbeooeihedhabaaDoorCrB
import Derived.Test.YtbeooeihedhabaaDoorCrD
import Derived.Maps.GroupsBeside
import Derived.Test.YtbeooeihedhabaaDoorCrC
import Derived.Laws.RangeString
import Derived.Outline
import Derived.Deep.CutBlock
namespace Go.Proofs.YtbeooeihedhabaaDoor
open Go.RowKit Go.Maps Go.ChangeShapes Go.WideMaps Go.MapKept
set_option maxHeartbeats 1000000
theorem lawS : Keyed Tryd.prog 9 := string_keyed Tryd.underlying9
theorem cint_info : (Tryd.prog.info? 3).map (fun i => (i.zero, i.size, i.bytes)) = some (some (.int .i64 0), 1, 8) := by kernel_rfl
theorem zeroInts (w : World) : (zeroValue 95).run Tryd.prog w = .ok (.slice none 0 0) w := by kernel_rfl
def cints (zs : List Nat) : List Int := zs.map fun (z : Nat) => (z : Int)
theorem ints_snoc (zs : List Nat) (z : Nat) : cints (zs ++ [z]) = cints zs ++ [(z : Int)] := by simp [cints]
def rowLit (zs : List Nat) : DataW Unit := if zs = [] then .nil else .slice (lits .i64 (cints zs)) []
theorem row_is {w : World} {base : Nat} {e : TypeId} {v : Value} {ys : List Int} {zs : List Nat} (h : w.ownsInts base e .i64 v ys) (hd : rowLit zs = rowDatum .i64 v ys) : ys = cints zs := by
  have hinj : ∀ a b : List Int, lits (H := Unit) .i64 a = lits .i64 b → a = b := fun a b hab => (List.map_inj_right (fun x y hxy => by cases hxy; rfl)).1 hab
  unfold rowLit at hd
  rcases h.datum (H := Unit) with ⟨h1, rfl⟩ | h1
  · rw [h1] at hd
    split at hd
    · rename_i hz; rw [hz]; rfl
    · cases hd
  · rw [h1] at hd
    split at hd
    · cases hd
    · injection hd with hd
      exact (hinj _ _ hd).symm
theorem groups_look {w : World} {base b n : Nat} {D : DataW Unit} {key : Value} {kl : Lit} (h : w.ownsGroups Tryd.prog 9 base 3 .i64 b n D) (hn : n < maxLen) (hkey : Go.keyOf Tryd.prog 9 key = some kl) :
    ∃ v zs, (Instr.lookup 114 (.map (some b)) key false).run Tryd.prog w = .ok v w ∧ D.atKey kl .nil = rowDatum .i64 v zs ∧ w.ownsInts base 3 .i64 v zs ∧ zs.length ≤ n ∧ w.groupBack Tryd.prog 114 9 base 3 .i64 b n D key kl v ∧ ∀ No : Nat → Prop, w.Shuns b No → ∀ g, v.ownBlock = some g → ¬ No g := by
  obtain ⟨v, zs, hrun, hat, hoi, hzl, hback⟩ := h.at lawS Tryd.underlying114 (zeroInts w) hn hkey
  refine ⟨v, zs, hrun, hat, hoi, hzl, hback, fun No hs g hg => ?_⟩
  obtain ⟨es, clock, hb, F, -⟩ := h
  rcases Maps.fit_look false lawS Tryd.underlying114 (zeroInts w) hb F hkey with ⟨hr, -, -⟩ | ⟨e0, y, hm, -, hr, -, -, -⟩
  · rw [hrun] at hr
    obtain ⟨rfl, -⟩ := Result.ok.inj hr
    cases hg
  · rw [hrun] at hr
    obtain ⟨rfl, -⟩ := Result.ok.inj hr
    exact hs es clock hb e0 hm g hg
/-- what the closure 'note' sees: the text, the map, what stands in it -/
structure NoteAt (W : World) (bk bs bm base : Nat) (K : ByteArray) (t : Nat) (No : Nat → Prop) : Prop where
  k : W.heap[bk]? = some (.cells #[.string K] 9 (0, 0))
  s : W.heap[bs]? = some (.cells #[.map (some bm)] 114 (0, 0))
  own : ∃ (n : Nat) (D : DataW Unit), n ≤ t ∧ W.ownsGroups Tryd.prog 9 base 3 .i64 bm n D ∧ ∀ key : List UInt8, key.length = 4 → D.atKey (.string key) .nil = rowLit (occ K.data.toList t key)
  sh : W.Shuns bm No
  hb : base ≤ W.heap.size
  lo : ∀ j, No j → j < W.heap.size
structure NTurn (W W' : World) (bm base : Nat) (No : Nat → Prop) : Prop where
  os : W'.os = W.os
  tape : W'.tape = W.tape
  output : W'.output = W.output
  size : W.heap.size ≤ W'.heap.size
  block : ∀ k, k < W.heap.size → k ≠ bm → (No k ∨ k < base) → W'.heap[k]? = W.heap[k]?
theorem NoteAt.map {W : World} {bk bs bm base : Nat} {K : ByteArray} {t : Nat} {No : Nat → Prop} (h : NoteAt W bk bs bm base K t No) : ∃ es clock, W.heap[bm]? = some (.map es clock) := by
  obtain ⟨n, D, -, ⟨es, clock, hb, -⟩, -⟩ := h.own
  exact ⟨es, clock, hb⟩
theorem NoteAt.ne {W : World} {bk bs bm base : Nat} {K : ByteArray} {t : Nat} {No : Nat → Prop} (h : NoteAt W bk bs bm base K t No) : bk ≠ bm ∧ bs ≠ bm := by
  obtain ⟨es, clock, hb⟩ := h.map
  refine ⟨fun e => ?_, fun e => ?_⟩
  · subst e; rw [h.k] at hb; cases hb
  · subst e; rw [h.s] at hb; cases hb
theorem NoteAt.lt {W : World} {bk bs bm base : Nat} {K : ByteArray} {t : Nat} {No : Nat → Prop} (h : NoteAt W bk bs bm base K t No) : bm < W.heap.size := by
  obtain ⟨es, clock, hb⟩ := h.map
  exact block_lt hb
/-- over whatever turns blocks of which No holds, or that lie below the rows -/
theorem NoteAt.kept {W W' : World} {bk bs bm base : Nat} {K : ByteArray} {t : Nat} {No : Nat → Prop} (h : NoteAt W bk bs bm base K t No) {row : Option Nat} (hg : W.grownBy W' row) (hr : ∀ j, row = some j → No j ∧ j ≠ bk ∧ j ≠ bs ∧ j ≠ bm) : NoteAt W' bk bs bm base K t No := by
  obtain ⟨n, D, hn, hown, hrd⟩ := h.own
  have hne : ∀ b, b ≠ bk ∨ True → (∀ j, row = some j → j ≠ b) → some b ≠ row := fun b _ hb e => hb b e.symm rfl
  have hm : some bm ≠ row := fun e => (hr bm e.symm).2.2.2 rfl
  exact ⟨(hg.block bk (block_lt h.k) fun e => (hr bk e.symm).2.1 rfl).trans h.k, (hg.block bs (block_lt h.s) fun e => (hr bs e.symm).2.2.1 rfl).trans h.s, ⟨n, D, hn, hown.kept hg hm (h.sh.rowsOff fun j hj => (hr j hj).1), hrd⟩, h.sh.kept hg h.lt hm, Nat.le_trans h.hb hg.size, fun j hj => Nat.lt_of_lt_of_le (h.lo j hj) hg.size⟩
theorem NoteAt.reno {W : World} {bk bs bm base : Nat} {K : ByteArray} {t : Nat} {No No' : Nat → Prop} (h : NoteAt W bk bs bm base K t No) (hn : ∀ g, No' g → No g ∨ W.heap.size ≤ g) (hlo : ∀ g, No' g → g < W.heap.size) : NoteAt W bk bs bm base K t No' := by
  obtain ⟨n, D, hnt, hown, hrd⟩ := h.own
  exact ⟨h.k, h.s, ⟨n, D, hnt, hown, hrd⟩, h.sh.reno hown hn, h.hb, hlo⟩
/-- where four bytes do not fit nothing is noted -/
theorem NoteAt.skip {W : World} {bk bs bm base : Nat} {K : ByteArray} {t : Nat} {No : Nat → Prop} (h : NoteAt W bk bs bm base K t No) (ht : K.size < t + 4) : NoteAt W bk bs bm base K (t + 1) No := by
  have hl : K.data.toList.length = K.size := rfl
  obtain ⟨n, D, hnt, hown, hrd⟩ := h.own
  exact ⟨h.k, h.s, ⟨n, D, by omega, hown, fun key hk => by rw [hrd key hk, occ_miss (fun e => by have := congrArg List.length e; rw [List.length_take, List.length_drop, hl] at this; omega)]⟩, h.sh, h.hb, h.lo⟩
theorem note_end {W0 W5 : World} {bk bs bm base x : Nat} {K : ByteArray} {t : Nat} {No : Nat → Prop} (h : NoteAt W0 bk bs bm base K t No) (hg : W0.grownBy W5 none) (hx : W5.heap[x]? = some (.cells #[.int .i64 (t : Int)] 3 (0, 0))) (ht : t + 4 ≤ K.size) (hK : K.size ≤ 1073741824) (hNk : No bk) (hNs : No bs) :
    ∃ v, (Instr.lookup 114 (.map (some bm)) (.string (K.extract t (t + 4))) false).run Tryd.prog W0 = .ok v W0 ∧ ∃ v' w6, (Builtin.append_ #[95, 95] 95 #[v, .slice (some ⟨x, 0, none⟩) 1 1]).run Tryd.prog W5 = .ok v' w6 ∧ ∃ w7, (Instr.mapUpdate 114 (.map (some bm)) (.string (K.extract t (t + 4))) v').run Tryd.prog w6 = .ok () w7 ∧
      w6.cell? ⟨bs, 0, none⟩ = some (.map (some bm)) ∧ w7.cell? ⟨bs, 0, none⟩ = some (.map (some bm)) ∧ NoteAt w7 bk bs bm base K (t + 1) No ∧ NTurn W0 w7 bm base No := by
  have hl : K.data.toList.length = K.size := rfl
  obtain ⟨n, D, hnt, hown, hrd⟩ := h.own
  have hne := h.ne
  obtain ⟨key, hkd⟩ : ∃ key, key = (K.data.toList.drop t).take 4 := ⟨_, rfl⟩
  have hxe : (K.extract t (t + 4)).data.toList = key := by rw [ByteArray.data_extract, Array.toList_extract, hkd]; show List.take (t + 4 - t) _ = _; rw [show t + 4 - t = 4 by omega]
  have hk4 : key.length = 4 := by rw [hkd, List.length_take, List.length_drop, hl]; omega
  have hkey : Go.keyOf Tryd.prog 9 (.string (K.extract t (t + 4))) = some (.string key) := by
    rw [← hxe]
    exact keyOf_string_mk Tryd.underlying9 (by show _ ≤ maxLen; rw [ByteArray.size_extract]; unfold maxLen; omega)
  obtain ⟨v, ys, hrun, hat, hoi, hyl, hback, hsu⟩ := groups_look hown (by unfold maxLen; omega) hkey
  have hys : ys = cints (occ K.data.toList t key) := row_is hoi (by rw [← hrd key hk4, hat])
  have hoi5 : W5.ownsInts base 3 .i64 v ys := hoi.kept hg (by cases v.ownBlock <;> simp)
  obtain ⟨i0, hi, hz0, hz1, hz2⟩ := info_parts cint_info
  obtain ⟨v', w6, hr6, hown6, hgr6, hnil, hloc⟩ := run_append_own_at (P := Tryd.prog) (w := W5) base 95 95 3 i0 (.int .i64 0) 1 8 Tryd.underlying95 hi hz0 hz1 hz2 rfl (by decide) v ys.length (ys.map (Value.int .i64)) hoi5.1 ⟨x, 0, none⟩ 1 1 [.int .i64 (t : Int)] rfl (fun j u hj => by
    cases j with
    | zero =>
      simp at hj
      subst hj
      show W5.cell? ⟨x, 0, none⟩ = _
      exact cell_of_one hx
    | succ j => simp at hj) (by simp [Value.oneCell']) (by unfold maxLen; omega) (by omega) (Nat.le_trans h.hb hg.size)
  have wf : (Lit.int .i64 (t : Int)).wf = true := WalkArith.wf_i64 (by omega)
  have hoi6 := hoi5.appended hown6 wf
  have hall : W0.grownBy w6 v.ownBlock := ⟨hgr6.os.trans hg.os, hgr6.tape.trans hg.tape, hgr6.output.trans hg.output, Nat.le_trans hg.size hgr6.size, fun k hk hne => (hgr6.block k (Nat.lt_of_lt_of_le hk hg.size) hne).trans (hg.block k hk (by simp))⟩
  have hloc2 : v'.ownBlock = v.ownBlock ∨ ∃ g, v'.ownBlock = some g ∧ W0.heap.size ≤ g := hloc.imp id fun h => ⟨_, h, hg.size⟩
  obtain ⟨w7, hr7, hown7, hgr7⟩ := hback w6 v' (ys ++ [(t : Int)]) hall hoi6 (by rw [List.length_append]; simp; omega) hloc2
  have nok : ∀ j, No j ∨ j < base → some j ≠ v.ownBlock := fun j hj e => by
    rcases hj with hj | hj
    · exact hsu No h.sh j e.symm hj
    · have := (hoi.1.lt j e.symm).1; omega
  have keep6 : ∀ j, j < W0.heap.size → No j ∨ j < base → w6.heap[j]? = W0.heap[j]? := fun j hj hn => hall.block j hj (nok j hn)
  have keep7 : ∀ j, j < W0.heap.size → j ≠ bm → No j ∨ j < base → w7.heap[j]? = W0.heap[j]? := fun j hj hm hn => (hgr7.block j (Nat.lt_of_lt_of_le hj hall.size) fun e => hm (Option.some.inj e)).trans (keep6 j hj hn)
  refine ⟨v, hrun, v', w6, hr6, w7, hr7, cell_of_one ((keep6 bs (block_lt h.s) (.inl hNs)).trans h.s), cell_of_one ((keep7 bs (block_lt h.s) hne.2 (.inl hNs)).trans h.s), ⟨(keep7 bk (block_lt h.k) hne.1 (.inl hNk)).trans h.k, (keep7 bs (block_lt h.s) hne.2 (.inl hNs)).trans h.s, ⟨n + 1, _, by omega, hown7, fun k' hk' => ?_⟩, ?_, Nat.le_trans h.hb (Nat.le_trans hall.size hgr7.size), fun j hj => Nat.lt_of_lt_of_le (h.lo j hj) (Nat.le_trans hall.size hgr7.size)⟩, ⟨hgr7.os.trans hall.os, hgr7.tape.trans hall.tape, hgr7.output.trans hall.output, Nat.le_trans hall.size hgr7.size, keep7⟩⟩
  · by_cases hkk : k' = key
    · subst hkk
      have hD : IsMap D := by
        obtain ⟨es, clock, -, -, -, rfl, -⟩ := hown
        exact ⟨_, rfl⟩
      rw [atKey_put_same hD (show WideAt.IsKeyLit (.string k') from trivial), hoi6.datum_pos (by simp), occ_hit hkd.symm, rowLit, if_neg (by simp), ints_snoc, hys]
    · rw [atKey_put_other (fun e => hkk (by injection e)), hrd k' hk', occ_miss (fun e => hkk (by rw [← e, hkd]))]
  · obtain ⟨es, clock, hb, F, hsz, -⟩ := hown
    have hb6 : w6.heap[bm]? = some (.map es clock) := (hall.block bm h.lt fun e => by
      have := (hoi.1.lt bm e.symm).1
      obtain ⟨n2, D2, -, hown2, -⟩ := h.own
      obtain ⟨es2, clock2, -, -, -, -, hbb, -⟩ := hown2
      omega).trans hb
    obtain ⟨es', clock', hb7, hwho⟩ := stored_who lawS Tryd.underlying114 hb6 F (Nat.lt_of_le_of_lt hsz (by unfold maxLen; omega)) hkey hr7
    intro es2 clock2 hb2 y hy g hyg
    obtain ⟨rfl, rfl⟩ : es' = es2 ∧ clock' = clock2 := by rw [hb7] at hb2; simpa using hb2
    rcases hwho y hy with ⟨hy0, -⟩ | ⟨-, hval⟩
    · exact h.sh es clock hb y hy0 g hyg
    · rw [hval] at hyg
      rcases hloc with h1 | h1
      · exact hsu No h.sh g (h1 ▸ hyg)
      · rw [h1] at hyg
        cases hyg
        intro hN
        have := h.lo _ hN
        have := hg.size
        omega
open Go.RowKit
set_option maxHeartbeats 2000000
set_option maxRecDepth 4000
theorem wp_look {P : Program} {o : Oper} {a : Act} {w : World} {K : Act → World → Prop} {Q : Exit → Act → World → Prop} (t : TypeId) (m x : Operand) (hop : o.op = Op.lookup t m x false) {mv xv v : Value} (hm : a.eval m = mv) (hx : a.eval x = xv) (hr : (Instr.lookup t mv xv false).run P w = .ok v w) (h : K (a.put o.dst v) w) : o.wp P a w K Q := by
  unfold Oper.wp
  simp [execOp, hop, hm, hx, hr, Result.andThen]
  exact h
theorem wp_mapSet {P : Program} {o : Oper} {a : Act} {w w' : World} {K : Act → World → Prop} {Q : Exit → Act → World → Prop} (t : TypeId) (m x y : Operand) (hop : o.op = Op.mapUpdate t m x y) {mv xv yv : Value} (hm : a.eval m = mv) (hx : a.eval x = xv) (hy : a.eval y = yv) (hr : (Instr.mapUpdate t mv xv yv).run P w = .ok () w') (h : K (a.put o.dst undef) w') : o.wp P a w K Q := by
  unfold Oper.wp
  simp [execOp, hop, hm, hx, hy, hr, Result.andThen]
  exact h
theorem wp_appInts {o : Oper} {a : Act} {w w' : World} {K : Act → World → Prop} {Q : Exit → Act → World → Prop} (sl x : Operand) (hop : o.op = .call { callee := .builtin .append, args := #[sl, x], argTypes := #[95, 95] }) (hty : o.type = 95) {sv xv v' : Value} (hs : a.eval sl = sv) (hx : a.eval x = xv) (hr : (Builtin.append_ #[95, 95] 95 #[sv, xv]).run Tryd.prog w = .ok v' w') (h : K (a.put o.dst v') w') : o.wp Tryd.prog a w K Q := by
  unfold Oper.wp execOp
  simp only [hop, hty, resolve, invoke, builtin, Sem.run_bind, Sem.run_pure, Result.andThen_ok, List.map_toArray, List.map_cons, List.map_nil, hs, hx, hr]
  exact h
theorem NTurn.refl (w : World) (bm base : Nat) (No : Nat → Prop) : NTurn w w bm base No := ⟨rfl, rfl, rfl, Nat.le_refl _, fun _ _ _ _ => rfl⟩
theorem NTurn.trans {a b c : World} {bm base : Nat} {No : Nat → Prop} (h : NTurn a b bm base No) (k : NTurn b c bm base No) : NTurn a c bm base No :=
  ⟨k.os.trans h.os, k.tape.trans h.tape, k.output.trans h.output, Nat.le_trans h.size k.size, fun j hj h1 h2 => (k.block j (Nat.lt_of_lt_of_le hj h.size) h1 h2).trans (h.block j hj h1 h2)⟩
theorem note_any (bk bs bm base : Nat) (K : ByteArray) (t : Nat) (No : Nat → Prop) (w : World) (h : NoteAt w bk bs bm base K t No) (hK : K.size ≤ 1073741824) (htK : t ≤ K.size) (hNk : No bk) (hNs : No bs) :
    Calls Tryd.prog 92 #[.int .i64 t, .pointer (some ⟨bk, 0, none⟩), .pointer (some ⟨bs, 0, none⟩)] w fun e w' => e = .returned (.tuple #[]) ∧ NoteAt w' bk bs bm base K (t + 1) No ∧ NTurn w w' bm base No := by
  have ck := cell_of_one h.k
  have cs := cell_of_one h.s
  obtain ⟨t4, ht4⟩ : ∃ x, x = t + 4 := ⟨_, rfl⟩
  have e1 : IntKind.i64.wrap ((t : Int) + 4) = (t4 : Int) := by rw [IntWalk.i64_in _ (by omega)]; omega
  by_cases hle : t4 ≤ K.size
  · have d0 : decide ((t4 : Int) ≤ K.size) = true := decide_eq_true (by omega)
    have d0' : decide (t4 ≤ K.size) = true := decide_eq_true hle
    have f0 : (0 : Int) ≤ t := by omega
    have f1 : (t : Int) ≤ t4 := by omega
    have f2 : (t4 : Int) ≤ K.size := by omega
    have f3 : t ≤ t4 := by omega
    obtain ⟨W5, hW5⟩ : ∃ W, W = w.drew.alloc (.cells #[.int .i64 (t : Int)] 3) := ⟨_, rfl⟩
    have hx5 : W5.heap[w.heap.size]? = some (.cells #[.int .i64 (t : Int)] 3 (0, 0)) := by rw [hW5]; exact heap_alloc_new w.drew _
    have hg5 : w.drew.grownBy W5 none := by rw [hW5]; exact World.grownBy_alloc _ _ _
    have hd : NoteAt w.drew bk bs bm base K t No := ⟨h.k, h.s, h.own, h.sh, h.hb, h.lo⟩
    have h5 := hd.kept hg5 (fun j hj => by cases hj)
    obtain ⟨v1, r11, v2, w6, r12, w7, r13, c16, c17, hn1, hT1⟩ := note_end hd hg5 hx5 (by omega) hK hNk hNs
    obtain ⟨u1, r21, u2, y6, r22, y7, r23, c26, c27, hn2, hT2⟩ := note_end h5 (World.grownBy.refl W5 none) hx5 (by omega) hK hNk hNs
    have HN1 := Lib.hid hn1
    have HN2 := Lib.hid hn2
    have HT1 : Hid (NTurn w w7 bm base No) := show NTurn _ _ _ _ _ from ⟨hT1.os, hT1.tape, hT1.output, hT1.size, hT1.block⟩
    have HT2 : Hid (NTurn w y7 bm base No) := show NTurn _ _ _ _ _ from ⟨hT2.os.trans hg5.os, hT2.tape.trans hg5.tape, hT2.output.trans hg5.output, Nat.le_trans hg5.size hT2.size, fun j hj h1 h2 => (hT2.block j (Nat.lt_of_lt_of_le hj hg5.size) h1 h2).trans (hg5.block j hj (by simp))⟩
    have c5 : W5.cell? ⟨bs, 0, none⟩ = some (.map (some bm)) := cell_of_one h5.s
    rw [← ht4] at r11 r13 r21 r23
    have R11 := Lib.hid r11
    have R12 := Lib.hid r12
    have R13 := Lib.hid r13
    have R21 := Lib.hid r21
    have R22 := Lib.hid r22
    have R23 := Lib.hid r23
    have HW5 : Hid ((w.alloc (.cells #[.int .i64 (t : Int)] 3)).drew = W5) := show _ = _ from hW5.symm
    clear hn1 hn2 hT1 hT2 h5 hd hg5 hx5 hW5 r11 r12 r13 r21 r22 r23 ht4
    go_enter Tryd.func92, Tryd.ntmps92
    go_wp2_with fail
    refine wp_region_held_drew (S := fun W => W.cell? ⟨bs, 0, none⟩ = some (.map (some bm))) (by kernel_rfl) cs (fun _ => ?_)
    refine rg_gen (i := 0) (v := ?_) rfl (by kernel_rfl) (by kernel_rfl) (by kernel_rfl) (fun _ _ _ h => h) rfl (by rfl) ?_ (by assumption) ?_
    rotate_left
    · intro w hSw
      try dsimp only at hSw
      go_simp
      try with_reducible rfl
    try simp only [Act.put, List.setIfInBounds_toArray, List.set_cons_zero, List.set_cons_succ]
    refine rg_gen (i := 1) (v := ?_) rfl (by kernel_rfl) (by kernel_rfl) (by kernel_rfl) (fun _ _ _ h => h) rfl (by rfl) ?_ (by assumption) ?_
    rotate_left
    · intro w hSw
      try dsimp only at hSw
      go_simp
      try with_reducible rfl
    try simp only [Act.put, List.setIfInBounds_toArray, List.set_cons_zero, List.set_cons_succ]
    refine rg_gen (i := 2) (v := ?_) rfl (by kernel_rfl) (by kernel_rfl) (by kernel_rfl) (fun _ _ _ h => h) rfl (by rfl) ?_ (by assumption) ?_
    rotate_left
    · intro w hSw
      try dsimp only at hSw
      go_simp
      try with_reducible rfl
    try simp only [Act.put, List.setIfInBounds_toArray, List.set_cons_zero, List.set_cons_succ]
    refine rg_gen (i := 3) (v := ?_) rfl (by kernel_rfl) (by kernel_rfl) (by kernel_rfl) (fun _ _ _ h => h) rfl (by rfl) ?_ (by assumption) ?_
    rotate_left
    · intro w hSw
      try dsimp only at hSw
      go_simp
      try with_reducible rfl
    try simp only [Act.put, List.setIfInBounds_toArray, List.set_cons_zero, List.set_cons_succ]
    refine rg_gen (i := 5) (v := ?_) rfl (by kernel_rfl) (by kernel_rfl) (by kernel_rfl) (fun _ _ _ h => h) rfl (by rfl) ?_ (by assumption) ?_
    rotate_left
    · intro w hSw
      try dsimp only at hSw
      go_simp
      try with_reducible rfl
    try simp only [Act.put, List.setIfInBounds_toArray, List.set_cons_zero, List.set_cons_succ]
    refine wpAnyH_ready (rs := [4, 6]) (by kernel_rfl) (by simp) ?_
    refine AllReadyH.cons rfl (fun K hK => ?_) (AllReadyH.cons rfl (fun K hK => ?_) AllReadyH.nil)
    · rw [if_pos (by rfl)]
      refine wp_look 114 (.tmp 17) (.tmp 18) rfl (by rfl) (by rfl) R11.out ?_
      refine hK.out _ _ cs (fun _ => ?_)
      clear hK K
      try simp only [Act.put, List.setIfInBounds_toArray]
      refine rg_one (i := 6) (by kernel_rfl) rfl (fun K hK => ?_)
      go_simp
      rw [HW5.out]
      refine hK.out _ _ c5 (fun _ => ?_)
      clear hK K
      try simp only [Act.put, List.setIfInBounds_toArray, List.set_cons_zero, List.set_cons_succ]
      refine rg_one (i := 7) (by kernel_rfl) rfl (fun K hK => ?_)
      rw [if_pos (by rfl)]
      refine wp_appInts (.tmp 19) (.tmp 21) rfl rfl (by rfl) (by rfl) R12.out ?_
      refine hK.out _ _ c16 (fun _ => ?_)
      clear hK K
      try simp only [Act.put, List.setIfInBounds_toArray]
      refine rg_one (i := 8) (by kernel_rfl) rfl (fun K hK => ?_)
      rw [if_pos (by rfl)]
      refine wp_mapSet 114 (.tmp 15) (.tmp 16) (.tmp 22) rfl (by rfl) (by rfl) (by rfl) R13.out ?_
      refine hK.out _ _ c17 (fun _ => ?_)
      clear hK K
      refine wpAnyH_done (by kernel_rfl) ?_ _
      go_wp2_with fail
      go_end0
      exact ⟨rfl, HN1.out, HT1.out⟩
    · go_simp
      rw [HW5.out]
      refine hK.out _ _ c5 (fun _ => ?_)
      clear hK K
      try simp only [Act.put, List.setIfInBounds_toArray, List.set_cons_zero, List.set_cons_succ]
      refine rg_one (i := 4) (by kernel_rfl) rfl (fun K hK => ?_)
      rw [if_pos (by rfl)]
      refine wp_look 114 (.tmp 17) (.tmp 18) rfl (by rfl) (by rfl) R21.out ?_
      refine hK.out _ _ c5 (fun _ => ?_)
      clear hK K
      try simp only [Act.put, List.setIfInBounds_toArray]
      refine rg_one (i := 7) (by kernel_rfl) rfl (fun K hK => ?_)
      rw [if_pos (by rfl)]
      refine wp_appInts (.tmp 19) (.tmp 21) rfl rfl (by rfl) (by rfl) R22.out ?_
      refine hK.out _ _ c26 (fun _ => ?_)
      clear hK K
      try simp only [Act.put]
      refine rg_one (i := 8) (by kernel_rfl) rfl (fun K hK => ?_)
      rw [if_pos (by rfl)]
      refine wp_mapSet 114 (.tmp 15) (.tmp 16) (.tmp 22) rfl (by rfl) (by rfl) (by rfl) R23.out ?_
      refine hK.out _ _ c27 (fun _ => ?_)
      clear hK K
      refine wpAnyH_done (by kernel_rfl) ?_ _
      go_wp2_with fail
      go_end0
      exact ⟨rfl, HN2.out, HT2.out⟩
  · have d0 : decide ((t4 : Int) ≤ K.size) = false := decide_eq_false (by omega)
    have d0' : decide (t4 ≤ K.size) = false := decide_eq_false hle
    have HS := Lib.hid (h.skip (by omega))
    clear ht4
    go_enter Tryd.func92, Tryd.ntmps92
    go_wp2_with fail
    go_end0
    exact ⟨rfl, HS.out, NTurn.refl _ _ _ _⟩
open Go.RowKit
set_option maxHeartbeats 2000000
set_option maxRecDepth 4000
theorem wp_appZ2 {o : Oper} {a : Act} {w : World} {K : Act → World → Prop} {Q : Exit → Act → World → Prop} (sl x : Operand) (tx : TypeId) (ho : o.op = .call { callee := .builtin .append, args := #[sl, x], argTypes := #[48, tx] }) (B : Nat) (v : Value) (xs : List UInt8) (hv : a.eval sl = v) (h : OwnZ B v xs w)
    (xv : Value) (hx : a.eval x = xv) (ys : List UInt8) (hs : Src Tryd.prog 1 tx xv ys.length (u8s ys) w) (hy : 0 < ys.length) (hl : xs.length + ys.length ≤ 140737488355328)
    (hK : ∀ v' w', OwnB B v' (xs ++ ys) w' → Below B w w' → (∀ k, k < w.heap.size → v.ownBlock ≠ some k → w'.heap[k]? = w.heap[k]?) → OwnNew w v v' → K (a.put o.dst v') w') : o.wp Tryd.prog a w K Q := by
  obtain ⟨v', w', hr, h2, h3, h4, h5⟩ := run_appZ2 h hs hy hl o.type
  unfold Oper.wp execOp
  simp only [ho, resolve, invoke, builtin, Sem.run_bind, Sem.run_pure, Result.andThen_ok, List.map_toArray, List.map_cons, List.map_nil, hv, hx, hr]
  exact hK v' w' h2 h3 h4 h5
/-- the closure's cells: from, out, the text -/
structure StW (B : Nat) (W : World) (bf bo bk : Nat) (K : ByteArray) (F : Nat) (v : Value) (O : List UInt8) : Prop where
  f : W.heap[bf]? = some (.cells #[.int .i64 F] 3 (0, 0))
  o : W.heap[bo]? = some (.cells #[v] 48 (0, 0))
  k : W.heap[bk]? = some (.cells #[.string K] 9 (0, 0))
  own : OwnZ B v O W
/-- what a step of out does -/
structure SwTurn (W W' : World) (bo : Nat) (v v' : Value) : Prop where
  os : W'.os = W.os
  tape : W'.tape = W.tape
  output : W'.output = W.output
  size : W.heap.size ≤ W'.heap.size
  block : ∀ k, k < W.heap.size → k ≠ bo → v.ownBlock ≠ some k → W'.heap[k]? = W.heap[k]?
  new : OwnNew W v v'
theorem SwTurn.refl (w : World) (bo : Nat) (v : Value) : SwTurn w w bo v v := ⟨rfl, rfl, rfl, Nat.le_refl _, fun _ _ _ _ => rfl, fun _ h => .inl h⟩
theorem OwnZ.row_ne {B b g : Nat} {v : Value} {xs : List UInt8} {w : World} {cs : Array Value} {t : TypeId} {fr : Nat × Nat} (h : OwnZ B v xs w) (hg : v.ownBlock = some g) (hb : w.heap[b]? = some (.cells cs t fr)) (ht : t ≠ 5) : g ≠ b := by
  intro e
  subst e
  rcases h with ⟨rfl, -, -⟩ | ⟨g2, cap, rest, fr2, rfl, -, hh, -⟩
  · cases hg
  · simp [Value.ownBlock] at hg
    subst hg
    rw [hh] at hb
    injection hb with hb
    injection hb with h1 h2
    exact ht h2.symm
theorem ne_of_types {w : World} {a b : Nat} {cs cs' : Array Value} {t t' : TypeId} {fr fr' : Nat × Nat} (ha : w.heap[a]? = some (.cells cs t fr)) (hb : w.heap[b]? = some (.cells cs' t' fr')) (h : t ≠ t') : a ≠ b := by
  intro e
  subst e
  rw [ha] at hb
  injection hb with hb
  injection hb with h1 h2
  exact h h2
theorem StW.ne {B : Nat} {W : World} {bf bo bk : Nat} {K : ByteArray} {F : Nat} {v : Value} {O : List UInt8} (h : StW B W bf bo bk K F v O) : bf ≠ bo ∧ bf ≠ bk ∧ bo ≠ bk :=
  ⟨ne_of_types h.f h.o (by decide), ne_of_types h.f h.k (by decide), ne_of_types h.o h.k (by decide)⟩
theorem stretch2_any (B bf bo bk : Nat) (s : ByteArray) (F z : Nat) (v : Value) (O : List UInt8) (w : World) (hA : StW B w bf bo bk s F v O) (hF : F ≤ z) (hto : z ≤ s.size) (h128 : z - F ≤ 128) (hs : s.size ≤ 1073741824) (hO : O.length ≤ 4294967296) :
    Calls Tryd.prog 93 #[.int .i64 z, .pointer (some ⟨bf, 0, none⟩), .pointer (some ⟨bo, 0, none⟩), .pointer (some ⟨bk, 0, none⟩)] w fun e w' => e = .returned (.tuple #[]) ∧ (∃ v', StW B w' bf bo bk s F v' (O ++ litW s F z) ∧ SwTurn w w' bo v v') := by
  have cf := cell_of_one hA.f
  have co := cell_of_one hA.o
  have cs := cell_of_one hA.k
  have HA := Lib.hid hA
  clear hA
  by_cases hlt : F < z
  · obtain ⟨d, hd0⟩ : ∃ d, z - F = d + 1 := ⟨z - F - 1, by omega⟩
    obtain ⟨k, hk⟩ : ∃ k, k = d + 1 := ⟨_, rfl⟩
    have e1 : IntKind.i64.wrap ((z : Int) - F) = (k : Int) := by rw [IntWalk.i64_in _ (by omega)]; omega
    have e2 : IntKind.i64.wrap ((k : Int) - 1) = (d : Int) := by rw [IntWalk.i64_in _ (by omega)]; omega
    have e3 : IntKind.u8.wrap (d : Int) = d := IntWalk.u8_in _ (by omega)
    have f0 : (0 : Int) ≤ F := by omega
    have f1 : (F : Int) ≤ z := by omega
    have f2 : (z : Int) ≤ s.size := by omega
    have HC : Hid ((d : Int) = ((UInt8.ofNat d).toNat : Int)) := show _ = _ from by rw [UInt8.toNat_ofNat_of_lt' (show d < 256 by omega)]
    have hbA : Below w.heap.size w (w.drew.alloc (.cells #[.int .u8 (d : Int)] 5)) := ((Below.refl _ _).drew).alloc (Nat.le_refl _) _
    have HBA := Lib.hid hbA
    have hA1 : StW B (w.drew.alloc (.cells #[.int .u8 (d : Int)] 5)) bf bo bk s F v O := ⟨keep_row hbA HA.out.f, keep_row hbA HA.out.o, keep_row hbA HA.out.k, HA.out.own.below hbA (Nat.le_refl _)⟩
    have HA1 := Lib.hid hA1
    have HSA : Hid ((w.drew.alloc (.cells #[.int .u8 (d : Int)] 5)).cell? ⟨bf, 0, none⟩ = some (.int .i64 F) ∧ (w.drew.alloc (.cells #[.int .u8 (d : Int)] 5)).cell? ⟨bk, 0, none⟩ = some (.string s)) := show _ ∧ _ from ⟨cell_of_one hA1.f, cell_of_one hA1.k⟩
    have co1 : w.drew.cell? ⟨bo, 0, none⟩ = some v := co
    have co2 : (w.drew.alloc (.cells #[.int .u8 (d : Int)] 5)).cell? ⟨bo, 0, none⟩ = some v := cell_of_one hA1.o
    have co3 : (w.alloc (.cells #[.int .u8 (d : Int)] 5)).cell? ⟨bo, 0, none⟩ = some v := co2
    have HXE : Hid ((s.extract F z).data.toList = (s.data.toList.drop F).take (z - F)) := show _ = _ from by rw [ByteArray.data_extract, Array.toList_extract]
    have HXL : Hid ((s.extract F z).data.toList.length = z - F) := show _ = _ from by
      have hl : s.data.toList.length = s.size := rfl
      rw [HXE.out, List.length_take, List.length_drop, hl]; omega
    have HLW : Hid (litW s F z = UInt8.ofNat d :: (s.data.toList.drop F).take (z - F)) := show _ = _ from by rw [litW, if_pos hlt, show z - F - 1 = d by omega]
    have hkb : d < 128 := by omega
    have HXP : Hid (0 < (s.extract F z).data.toList.length) := show _ < _ from by rw [HXL.out]; omega
    have hd : decide ((F : Int) < z) = true := decide_eq_true (by omega)
    have hdn : decide (F < z) = true := decide_eq_true hlt
    clear hk hd0 hbA hA1
    go_enter Tryd.func93, Tryd.ntmps93
    go_wp2_with fail
    refine wp_region_held_drew (S := fun W => W.cell? ⟨bf, 0, none⟩ = some (.int .i64 F) ∧ W.cell? ⟨bk, 0, none⟩ = some (.string s)) (by kernel_rfl) ⟨cf, cs⟩ (fun _ => ?_)
    refine rg_gen (i := 1) (v := ?_) rfl (by kernel_rfl) (by kernel_rfl) (by kernel_rfl) (fun _ _ _ h => h) rfl (by rfl) ?_ (by assumption) ?_
    rotate_left
    · intro w hSw
      try dsimp only at hSw
      go_simp
      try with_reducible rfl
    try simp only [Act.put, List.setIfInBounds_toArray, List.set_cons_zero, List.set_cons_succ]
    refine rg_gen (i := 2) (v := ?_) rfl (by kernel_rfl) (by kernel_rfl) (by kernel_rfl) (fun _ _ _ h => h) rfl (by rfl) ?_ (by assumption) ?_
    rotate_left
    · intro w hSw
      try dsimp only at hSw
      go_simp
      try with_reducible rfl
    try simp only [Act.put, List.setIfInBounds_toArray, List.set_cons_zero, List.set_cons_succ]
    refine rg_gen (i := 3) (v := ?_) rfl (by kernel_rfl) (by kernel_rfl) (by kernel_rfl) (fun _ _ _ h => h) rfl (by rfl) ?_ (by assumption) ?_
    rotate_left
    · intro w hSw
      try dsimp only at hSw
      go_simp
      try with_reducible rfl
    try simp only [Act.put, List.setIfInBounds_toArray, List.set_cons_zero, List.set_cons_succ]
    refine rg_gen (i := 4) (v := ?_) rfl (by kernel_rfl) (by kernel_rfl) (by kernel_rfl) (fun _ _ _ h => h) rfl (by rfl) ?_ (by assumption) ?_
    rotate_left
    · intro w hSw
      try dsimp only at hSw
      go_simp
      try with_reducible rfl
    try simp only [Act.put, List.setIfInBounds_toArray, List.set_cons_zero, List.set_cons_succ]
    refine rg_gen (i := 5) (v := ?_) rfl (by kernel_rfl) (by kernel_rfl) (by kernel_rfl) (fun _ _ _ h => h) rfl (by rfl) ?_ (by assumption) ?_
    rotate_left
    · intro w hSw
      try dsimp only at hSw
      go_simp
      try with_reducible rfl
    try simp only [Act.put, List.setIfInBounds_toArray, List.set_cons_zero, List.set_cons_succ]
    refine rg_gen (i := 8) (v := ?_) rfl (by kernel_rfl) (by kernel_rfl) (by kernel_rfl) (fun _ _ _ h => h) rfl (by rfl) ?_ (by assumption) ?_
    rotate_left
    · intro w hSw
      try dsimp only at hSw
      go_simp
      try with_reducible rfl
    try simp only [Act.put, List.setIfInBounds_toArray, List.set_cons_zero, List.set_cons_succ]
    refine rg_gen (i := 9) (v := ?_) rfl (by kernel_rfl) (by kernel_rfl) (by kernel_rfl) (fun _ _ _ h => h) rfl (by rfl) ?_ (by assumption) ?_
    rotate_left
    · intro w hSw
      try dsimp only at hSw
      go_simp
      try with_reducible rfl
    try simp only [Act.put, List.setIfInBounds_toArray, List.set_cons_zero, List.set_cons_succ]
    refine rg_gen (i := 10) (v := ?_) rfl (by kernel_rfl) (by kernel_rfl) (by kernel_rfl) (fun _ _ _ h => h) rfl (by rfl) ?_ (by assumption) ?_
    rotate_left
    · intro w hSw
      try dsimp only at hSw
      go_simp
      try with_reducible rfl
    try simp only [Act.put, List.setIfInBounds_toArray, List.set_cons_zero, List.set_cons_succ]
    refine rg_gen (i := 11) (v := ?_) rfl (by kernel_rfl) (by kernel_rfl) (by kernel_rfl) (fun _ _ _ h => h) rfl (by rfl) ?_ (by assumption) ?_
    rotate_left
    · intro w hSw
      try dsimp only at hSw
      go_simp
      try with_reducible rfl
    try simp only [Act.put, List.setIfInBounds_toArray, List.set_cons_zero, List.set_cons_succ]
    refine wpAnyH_ready (rs := [0, 6]) (by kernel_rfl) (by simp) ?_
    refine AllReadyH.cons rfl (fun K hK => ?_) (AllReadyH.cons rfl (fun K hK => ?_) AllReadyH.nil)
    go_simp
    refine hK.out _ _ ⟨cf, cs⟩ (fun _ => ?_)
    clear hK K
    try simp only [Act.put, List.setIfInBounds_toArray, List.set_cons_zero, List.set_cons_succ]
    refine rg_one (i := 6) (by kernel_rfl) rfl (fun K hK => ?_)
    go_simp
    refine hK.out _ _ HSA.out (fun _ => ?_)
    clear hK K
    rotate_left
    go_simp
    refine hK.out _ _ HSA.out (fun _ => ?_)
    clear hK K
    try simp only [Act.put, List.setIfInBounds_toArray, List.set_cons_zero, List.set_cons_succ]
    refine rg_one (i := 0) (by kernel_rfl) rfl (fun K hK => ?_)
    go_simp
    refine hK.out _ _ HSA.out (fun _ => ?_)
    clear hK K
    all_goals
      try simp only [Act.put, List.setIfInBounds_toArray, List.set_cons_zero, List.set_cons_succ]
      refine rg_one (i := 7) (by kernel_rfl) rfl (fun K hK => ?_)
      rw [if_pos (by rfl)]
      refine wp_appZ2 (.tmp 8) (.tmp 14) 48 rfl B v O (by rfl) HA1.out.own _ (by rfl) [UInt8.ofNat d] (byte_src HC.out (heap_alloc_new w.drew _)) Nat.one_pos (by simp; omega) ?_
      intro v5 w5 hO5 hb5 hk5 hn5
      have HT5 : Hid (StW B w5 bf bo bk s F v (O ++ [UInt8.ofNat d]) ∨ True) := show _ ∨ _ from .inr trivial
      have hne1 : ∀ j cs t fr, w.heap[j]? = some (.cells cs t fr) → t ≠ 5 → v.ownBlock ≠ some j := fun j cs t fr hj ht e => HA.out.own.row_ne e hj ht rfl
      have hk5' : ∀ j, j < w.heap.size → v.ownBlock ≠ some j → w5.heap[j]? = w.heap[j]? := fun j hj hn => (hk5 j (Nat.lt_of_lt_of_le hj HBA.out.size) hn).trans (HBA.out.block j hj)
      have hS5 : w5.cell? ⟨bf, 0, none⟩ = some (.int .i64 F) ∧ w5.cell? ⟨bk, 0, none⟩ = some (.string s) := ⟨cell_of_one ((hk5' bf (block_lt HA.out.f) (hne1 _ _ _ _ HA.out.f (by decide))).trans HA.out.f), cell_of_one ((hk5' bk (block_lt HA.out.k) (hne1 _ _ _ _ HA.out.k (by decide))).trans HA.out.k)⟩
      have HO5 : Hid (OwnZ B v5 (O ++ [UInt8.ofNat d]) w5) := show _ ∨ _ from .inr hO5
      have HB5 : Hid (Below B w w5) := ((HBA.out.mono HA.out.own.lt).trans hb5)
      have HK5 := Lib.hid hk5'
      have HN5 : Hid (OwnNew w v v5) := show OwnNew _ _ _ from fun k hk => (hn5 k hk).imp id fun h => Nat.le_trans HBA.out.size h
      have HNE := Lib.hid hne1
      clear hO5 hb5 hk5 hn5 hk5' hne1 HT5
      refine hK.out _ _ hS5 (fun _ => ?_)
      clear hK K hS5
      try simp only [Act.put, List.setIfInBounds_toArray]
      refine rg_one (i := 12) (by kernel_rfl) rfl (fun K hK => ?_)
      rw [if_pos (by rfl)]
      refine wp_appZ2 (.tmp 15) (.tmp 19) 9 rfl B v5 (O ++ [UInt8.ofNat d]) (by rfl) HO5.out _ (by rfl) (s.extract F z).data.toList (Src.ofString w5 Tryd.underlying9 (s.extract F z)) HXP.out (by rw [HXL.out]; simp; omega) ?_
      intro v6 w6 hO6 hb6 hk6 hn6
      have HO6 : Hid (OwnZ B v6 (O ++ litW s F z) w6) := show _ ∨ _ from .inr (by rw [HXE.out, List.append_assoc] at hO6; rw [HLW.out]; exact hO6)
      have HB6 := Lib.hid (HB5.out.trans hb6)
      have HZ6 : Hid (w.heap.size ≤ w6.heap.size) := show _ ≤ _ from Nat.le_trans (HB5.out.size) hb6.size
      have HK6 : Hid (∀ j, j < w.heap.size → v.ownBlock ≠ some j → w6.heap[j]? = w.heap[j]?) := show ∀ j, _ from fun j hj hn => (hk6 j (Nat.lt_of_lt_of_le hj HB5.out.size) (fun e => (HN5.out j e).elim hn (by omega))).trans (HK5.out j hj hn)
      have HN6 : Hid (OwnNew w v v6) := show OwnNew _ _ _ from fun k hk => (hn6 k hk).elim (HN5.out k) fun h => .inr (Nat.le_trans HB5.out.size h)
      clear hO6 hb6 hk6 hn6 HO5 HB5 HK5 HN5
      obtain ⟨q6, n6, c6, rfl⟩ := OwnZ.sh HO6.out
      have hf6 : w6.heap[bf]? = some (.cells #[.int .i64 F] 3 (0, 0)) := (HK6.out bf (block_lt HA.out.f) (HNE.out _ _ _ _ HA.out.f (by decide))).trans HA.out.f
      have ho6 : w6.heap[bo]? = some (.cells #[v] 48 (0, 0)) := (HK6.out bo (block_lt HA.out.o) (HNE.out _ _ _ _ HA.out.o (by decide))).trans HA.out.o
      have hk6 : w6.heap[bk]? = some (.cells #[.string s] 9 (0, 0)) := (HK6.out bk (block_lt HA.out.k) (HNE.out _ _ _ _ HA.out.k (by decide))).trans HA.out.k
      have HF6 := Lib.hid hf6
      have HO6' := Lib.hid ho6
      have HK6' := Lib.hid hk6
      have co6 : w6.cell? ⟨bo, 0, none⟩ = some v := cell_of_one ho6
      have cz6 : w6.frozen? ⟨bo, 0, none⟩ = false := frozen_of_row w6 bo 0 _ _ ho6
      clear ho6
      refine hK.out _ _ ⟨cell_of_one hf6, cell_of_one hk6⟩ (fun _ => ?_)
      clear hK K hf6 hk6
      try simp only [Act.put]
      refine rg_one (i := 13) (by kernel_rfl) rfl (fun K hK => ?_)
      go_simp
      have hA6 : StW B (w6.setCell ⟨bo, 0, none⟩ (.slice q6 n6 c6)) bf bo bk s F (.slice q6 n6 c6) (O ++ litW s F z) := by
        have hn := HA.out.ne
        refine ⟨(heap_setCell_other _ _ _ _ hn.1).trans HF6.out, set_row (i := 0) (cs := [v]) HO6'.out (.slice q6 n6 c6), (heap_setCell_other _ _ _ _ (Ne.symm hn.2.2)).trans HK6'.out, ?_⟩
        exact HO6.out.keep (by simp [World.setCell]) fun k hk => heap_setCell_other _ _ _ _ (HO6.out.row_ne hk HO6'.out (by decide))
      have hT6 : SwTurn w (w6.setCell ⟨bo, 0, none⟩ (.slice q6 n6 c6)) bo v (.slice q6 n6 c6) := ⟨HB6.out.os, HB6.out.tape, HB6.out.output, Nat.le_trans HZ6.out (by simp [World.setCell]), fun j hj h1 h2 => (heap_setCell_other _ _ _ _ h1).trans (HK6.out j hj h2), HN6.out⟩
      have HA6 := Lib.hid hA6
      have HT6 := Lib.hid hT6
      refine hK.out _ _ ⟨cell_of_one hA6.f, cell_of_one hA6.k⟩ (fun _ => ?_)
      clear hK K hA6 hT6
      refine wpAnyH_done (by kernel_rfl) ?_ _
      go_wp2_with fail
      go_end0
      exact ⟨rfl, _, HA6.out, HT6.out⟩
  · obtain rfl : F = z := by omega
    have hd : decide ((F : Int) < F) = false := decide_eq_false (by omega)
    have HLW : Hid (litW s F F = []) := show _ = _ from litW_none s F
    go_enter Tryd.func93, Tryd.ntmps93
    go_wp2_with fail
    go_end0
    exact ⟨rfl, v, by rw [HLW.out, List.append_nil]; exact HA.out, SwTurn.refl _ _ _⟩
open Go.RowKit Go.Maps Go.ChangeShapes Go.WideMaps Go.MapKept
set_option maxHeartbeats 1000000
theorem nodup_key {es : List MapEntry} (h : (es.map (·.key)).Nodup) {x y : MapEntry} (hx : x ∈ es) (hy : y ∈ es) (he : x.key = y.key) : x = y := by
  induction es with
  | nil => cases hx
  | cons e es ih =>
    rw [List.map_cons, List.nodup_cons] at h
    rcases List.mem_cons.1 hx with e1 | hx' <;> rcases List.mem_cons.1 hy with e2 | hy'
    · rw [e1, e2]
    · exact absurd (List.mem_map.2 ⟨y, hy', by rw [← he, e1]⟩) h.1
    · exact absurd (List.mem_map.2 ⟨x, hx', by rw [he, e2]⟩) h.1
    · exact ih h.2 hx' hy'
theorem look_same {w w' : World} {base b n : Nat} {D : DataW Unit} {key v : Value} {kl : Lit} (h : w.ownsGroups Tryd.prog 9 base 3 .i64 b n D) (hb' : w'.heap = w.heap) (h' : w'.ownsGroups Tryd.prog 9 base 3 .i64 b n D) (hkey : Go.keyOf Tryd.prog 9 key = some kl)
    (hr : (Instr.lookup 114 (.map (some b)) key false).run Tryd.prog w = .ok v w) : (Instr.lookup 114 (.map (some b)) key false).run Tryd.prog w' = .ok v w' := by
  obtain ⟨es, clock, hb, F, -⟩ := h
  obtain ⟨es2, clock2, hb2, F2, -⟩ := h'
  obtain ⟨rfl, rfl⟩ : es2 = es ∧ clock2 = clock := by rw [hb', hb] at hb2; simpa using hb2.symm
  rcases Maps.fit_look false lawS Tryd.underlying114 (zeroInts w) hb F hkey with ⟨r1, n1, -⟩ | ⟨e0, y, m1, k1, r1, -⟩ <;> rcases Maps.fit_look false lawS Tryd.underlying114 (zeroInts w') hb2 F2 hkey with ⟨r2, n2, -⟩ | ⟨e2, y2, m2, k2, r2, -⟩
  · rw [r1] at hr
    rw [r2, ← (Result.ok.inj hr).1]
  · exact absurd k2 (n1 e2 m2)
  · exact absurd k1 (n2 e0 m1)
  · obtain rfl := nodup_key F.stamped.2.2 m1 m2 (k1.trans k2.symm)
    rw [r1] at hr
    rw [r2, ← (Result.ok.inj hr).1]
theorem NoteAt.look {W : World} {bk bs bm base : Nat} {K : ByteArray} {t : Nat} {No : Nat → Prop} (h : NoteAt W bk bs bm base K t No) {a : Nat} (ha : a + 4 ≤ K.size) (ht : t ≤ 1073741824) (_hK : K.size ≤ 1073741824) :
    ∃ (q : Option Addr) (zs : List Nat) (c : Nat), zs = occ K.data.toList t ((K.data.toList.drop a).take 4) ∧ (∀ m, (Instr.lookup 114 (.map (some bm)) (.string (K.extract a (a + 4))) false).run Tryd.prog (W.drewN m) = .ok (.slice q zs.length c) (W.drewN m)) ∧ ∀ j, j < zs.length → ∃ g, q = some ⟨g, 0, none⟩ ∧ W.cell? ⟨g, j, none⟩ = some (.int .i64 (zs.getD j 0 : Nat)) := by
  have hl : K.data.toList.length = K.size := rfl
  obtain ⟨n, D, hnt, hown, hrd⟩ := h.own
  obtain ⟨key, hkd⟩ : ∃ key, key = (K.data.toList.drop a).take 4 := ⟨_, rfl⟩
  have hxe : (K.extract a (a + 4)).data.toList = key := by rw [ByteArray.data_extract, Array.toList_extract, hkd]; show List.take (a + 4 - a) _ = _; rw [show a + 4 - a = 4 by omega]
  have hk4 : key.length = 4 := by rw [hkd, List.length_take, List.length_drop, hl]; omega
  have hkey : Go.keyOf Tryd.prog 9 (.string (K.extract a (a + 4))) = some (.string key) := by
    rw [← hxe]
    exact keyOf_string_mk Tryd.underlying9 (by show _ ≤ maxLen; rw [ByteArray.size_extract]; unfold maxLen; omega)
  obtain ⟨v, ys, hrun, hat, hoi, hyl, -, -⟩ := groups_look hown (by unfold maxLen; omega) hkey
  have hys : ys = cints (occ K.data.toList t key) := row_is hoi (by rw [← hrd key hk4, hat])
  have hlen : ys.length = (occ K.data.toList t key).length := by rw [hys]; simp [cints]
  have hall : ∀ m, (Instr.lookup 114 (.map (some bm)) (.string (K.extract a (a + 4))) false).run Tryd.prog (W.drewN m) = .ok v (W.drewN m) := fun m => look_same hown rfl hown hkey hrun
  rw [← hkd]
  rcases hoi.1.2 with ⟨rfl, h0⟩ | ⟨g, cap, cur, rfl, -⟩
  · refine ⟨none, _, 0, rfl, fun m => ?_, fun j hj => by omega⟩
    rw [← hlen, h0]
    exact hall m
  · refine ⟨some ⟨g, 0, none⟩, _, cap, rfl, fun m => ?_, fun j hj => ⟨g, rfl, ?_⟩⟩
    · rw [← hlen]
      exact hall m
    · rw [hoi.1.cellAt j (by omega), hys]
      simp [cints, List.getElem?_eq_getElem hj, List.getD]
/-- over a step of out's -/
theorem NoteAt.sw {W W' : World} {bk bs bm base bo : Nat} {K : ByteArray} {t : Nat} {No No' : Nat → Prop} {v v' : Value} (h : NoteAt W bk bs bm base K t No) (hT : SwTurn W W' bo v v') (hbo : No bo ∧ bo ≠ bk ∧ bo ≠ bs ∧ bo ≠ bm) (hv : ∀ j, v.ownBlock = some j → No j ∧ j ≠ bk ∧ j ≠ bs ∧ j ≠ bm) (hn : ∀ g, No' g → No g ∨ W.heap.size ≤ g) (hlo : ∀ g, No' g → g < W'.heap.size) : NoteAt W' bk bs bm base K t No' := by
  obtain ⟨ob, hob⟩ : ∃ o, W.heap[bo]? = some o := ⟨_, Array.getElem?_eq_getElem (h.lo bo hbo.1)⟩
  obtain ⟨Wm, hWm⟩ : ∃ Wm : World, Wm = { W' with heap := W'.heap.setIfInBounds bo ob } := ⟨_, rfl⟩
  have hsz : Wm.heap.size = W'.heap.size := by rw [hWm]; simp
  have hbl : bo < W'.heap.size := Nat.lt_of_lt_of_le (h.lo bo hbo.1) hT.size
  have hm1 : ∀ j, j ≠ bo → Wm.heap[j]? = W'.heap[j]? := fun j hj => by
    rw [hWm]
    show (W'.heap.setIfInBounds bo ob)[j]? = _
    rw [Array.getElem?_setIfInBounds_ne (Ne.symm hj)]
  have hm2 : Wm.heap[bo]? = some ob := by
    rw [hWm]
    show (W'.heap.setIfInBounds bo ob)[bo]? = _
    rw [Array.getElem?_setIfInBounds_self_of_lt hbl]
  have g1 : W.grownBy Wm v.ownBlock := by
    refine ⟨?_, ?_, ?_, by rw [hsz]; exact hT.size, fun j hj hne => ?_⟩
    · rw [hWm]; exact hT.os
    · rw [hWm]; exact hT.tape
    · rw [hWm]; exact hT.output
    · by_cases e : j = bo
      · subst e; rw [hm2, hob]
      · rw [hm1 j e]; exact hT.block j hj e fun e2 => hne e2.symm
  have g2 : Wm.grownBy W' (some bo) := by
    refine ⟨?_, ?_, ?_, by rw [hsz]; exact Nat.le_refl _, fun j hj hne => (hm1 j fun e => hne (by rw [e])).symm⟩
    · rw [hWm]
    · rw [hWm]
    · rw [hWm]
  have h1 := h.kept g1 hv
  have h2 := h1.kept g2 fun j hj => by cases hj; exact hbo
  obtain ⟨n, D, hnt, hown, hrd⟩ := h.own
  have s1 := (h.sh.reno hown hn).kept g1 h.lt fun e => (hv bm e.symm).2.2.2 rfl
  have s2 := s1.kept g2 h1.lt fun e => hbo.2.2.2 (by injection e with e; exact e.symm)
  exact ⟨h2.k, h2.s, h2.own, s2, h2.hb, hlo⟩
def NoW (bk bs bf bo : Nat) (v : Value) : Nat → Prop := fun j => j = bk ∨ j = bs ∨ j = bf ∨ j = bo ∨ v.ownBlock = some j
/-- all of it -/
structure WP (N : Nat) (w W : World) (bk bs bm base bf bo : Nat) (K : ByteArray) (t f : Nat) (v : Value) (O : List UInt8) : Prop where
  note : NoteAt W bk bs bm base K t (NoW bk bs bf bo v)
  st : StW N W bf bo bk K f v O
  below : Below N w W
  lo : N ≤ bk ∧ N ≤ bs ∧ N ≤ bm ∧ N ≤ base ∧ N ≤ bf ∧ N ≤ bo
section
variable {N : Nat} {w W W' : World} {bk bs bm base bf bo : Nat} {K : ByteArray} {t f : Nat} {v v' : Value} {O O' : List UInt8}
theorem WP.rowlt (h : WP N w W bk bs bm base bf bo K t f v O) {j : Nat} (hj : v.ownBlock = some j) : j < W.heap.size := h.st.own.lt_size hj
theorem ne_of_map {W : World} {a b : Nat} {cs : Array Value} {t : TypeId} {fr : Nat × Nat} {es : Array MapEntry} {clock : Nat} (ha : W.heap[a]? = some (.cells cs t fr)) (hb : W.heap[b]? = some (.map es clock)) : a ≠ b := by
  intro e
  subst e
  rw [ha] at hb
  cases hb
theorem WP.row (h : WP N w W bk bs bm base bf bo K t f v O) {j : Nat} (hj : v.ownBlock = some j) : NoW bk bs bf bo v j ∧ j ≠ bk ∧ j ≠ bs ∧ j ≠ bm := by
  obtain ⟨es, clock, hb⟩ := h.note.map
  refine ⟨.inr (.inr (.inr (.inr hj))), h.st.own.row_ne hj h.note.k (by decide), h.st.own.row_ne hj h.note.s (by decide), fun e => ?_⟩
  rcases h.st.own with ⟨h1, -, -⟩ | ⟨g, cap, rest, fr, h1, -, hh, -⟩
  · rw [h1] at hj; cases hj
  · rw [h1] at hj
    simp [Value.ownBlock] at hj
    subst hj
    exact ne_of_map hh hb e
theorem WP.noted (h : WP N w W bk bs bm base bf bo K t f v O) {t' : Nat} (hn : NoteAt W' bk bs bm base K t' (NoW bk bs bf bo v)) (hT : NTurn W W' bm base (NoW bk bs bf bo v)) : WP N w W' bk bs bm base bf bo K t' f v O := by
  obtain ⟨es, clock, hb⟩ := h.note.map
  have kf := hT.block bf (block_lt h.st.f) (ne_of_map h.st.f hb) (.inl (.inr (.inr (.inl rfl))))
  have ko := hT.block bo (block_lt h.st.o) (ne_of_map h.st.o hb) (.inl (.inr (.inr (.inr (.inl rfl)))))
  refine ⟨hn, ⟨kf.trans h.st.f, ko.trans h.st.o, hn.k, h.st.own.keep hT.size fun j hj => hT.block j (h.rowlt hj) (h.row hj).2.2.2 (.inl (h.row hj).1)⟩, h.below.trans ⟨hT.os, hT.tape, hT.output, hT.size, fun j hj => ?_⟩, h.lo⟩
  have := block_lt h.note.k
  have := h.lo
  exact hT.block j (by omega) (by omega) (.inr (by omega))
theorem WP.laid (h : WP N w W bk bs bm base bf bo K t f v O) (hs : StW N W' bf bo bk K f v' O') (hT : SwTurn W W' bo v v') (hv : ∀ j, v'.ownBlock = some j → j < W'.heap.size) : WP N w W' bk bs bm base bf bo K t f v' O' := by
  obtain ⟨es, clock, hb⟩ := h.note.map
  have hne := h.st.ne
  refine ⟨h.note.sw hT ⟨.inr (.inr (.inr (.inl rfl))), hne.2.2, ne_of_types h.st.o h.note.s (by decide), ne_of_map h.st.o hb⟩ (fun j hj => h.row hj) (fun g hg => ?_) (fun g hg => ?_), hs, h.below.trans ⟨hT.os, hT.tape, hT.output, hT.size, fun j hj => ?_⟩, h.lo⟩
  · rcases hg with h1 | h1 | h1 | h1 | h1
    · exact .inl (.inl h1)
    · exact .inl (.inr (.inl h1))
    · exact .inl (.inr (.inr (.inl h1)))
    · exact .inl (.inr (.inr (.inr (.inl h1))))
    · exact (hT.new g h1).imp (fun h2 => .inr (.inr (.inr (.inr h2)))) id
  · rcases hg with rfl | rfl | rfl | rfl | h1
    · exact block_lt hs.k
    · exact Nat.lt_of_lt_of_le (block_lt h.note.s) hT.size
    · exact block_lt hs.f
    · exact block_lt hs.o
    · exact hv g h1
  · have := block_lt h.note.k
    have := h.lo
    refine hT.block j (by omega) (by omega) fun e => ?_
    have hlo : N ≤ j := by
      rcases h.st.own with ⟨h1, -, -⟩ | ⟨g, cap, rest, fr, h1, hg, -⟩
      · rw [h1] at e; cases e
      · rw [h1] at e
        simp [Value.ownBlock] at e
        omega
    omega
theorem StW.rowlt (h : StW N W bf bo bk K f v O) {j : Nat} (hj : v.ownBlock = some j) : j < W.heap.size := h.own.lt_size hj
/-- 'from' is set -/
theorem WP.from (h : WP N w W bk bs bm base bf bo K t f v O) (a : Nat) : WP N w (W.setCell ⟨bf, 0, none⟩ (.int .i64 a)) bk bs bm base bf bo K t a v O := by
  obtain ⟨es, clock, hb⟩ := h.note.map
  have hne := h.st.ne
  have hg : W.grownBy (W.setCell ⟨bf, 0, none⟩ (.int .i64 a)) (some bf) := ⟨rfl, rfl, rfl, by simp [World.setCell], fun j hj hn => heap_setCell_other _ _ _ _ fun e => hn (by rw [e])⟩
  refine ⟨h.note.kept hg fun j hj => ?_, ⟨set_row (i := 0) (cs := [.int .i64 (f : Int)]) h.st.f (.int .i64 (a : Int)), (heap_setCell_other _ _ _ _ (Ne.symm hne.1)).trans h.st.o, (heap_setCell_other _ _ _ _ (Ne.symm hne.2.1)).trans h.st.k, h.st.own.keep hg.size fun j hj => heap_setCell_other _ _ _ _ (h.st.own.row_ne hj h.st.f (by decide))⟩, h.below.trans ⟨rfl, rfl, rfl, hg.size, fun j hj => heap_setCell_other _ _ _ _ (by show j ≠ bf; have := h.lo; omega)⟩, h.lo⟩
  cases hj
  exact ⟨.inr (.inr (.inl rfl)), hne.2.1, ne_of_types h.st.f h.note.s (by decide), ne_of_map h.st.f hb⟩
/-- a new block is laid -/
theorem WP.alloc (h : WP N w W bk bs bm base bf bo K t f v O) (o : Obj) : WP N w (W.alloc o) bk bs bm base bf bo K t f v O := by
  have hb := bw_alloc (Below.refl W.heap.size W) o
  have hN : N ≤ W.heap.size := h.st.own.lt
  exact ⟨h.note.kept (World.grownBy_alloc _ _ none) (fun j hj => by cases hj), ⟨keep_row hb h.st.f, keep_row hb h.st.o, keep_row hb h.st.k, h.st.own.below hb (Nat.le_refl _)⟩, h.below.alloc hN o, h.lo⟩
theorem WP.drewN (h : WP N w W bk bs bm base bf bo K t f v O) (n : Nat) : WP N w (W.drewN n) bk bs bm base bf bo K t f v O :=
  ⟨⟨h.note.k, h.note.s, h.note.own, h.note.sh, h.note.hb, h.note.lo⟩, ⟨h.st.f, h.st.o, h.st.k, h.st.own⟩, bw_drewN h.below n, h.lo⟩
/-- out's new row is laid into its cell -/
theorem WP.out {w5 : World} (h : WP N w W bk bs bm base bf bo K t f v O) (hO : OwnB N v' O' w5) (hB : Below N W w5) (hk : ∀ k, k < W.heap.size → v.ownBlock ≠ some k → w5.heap[k]? = W.heap[k]?) (hn : OwnNew W v v') : WP N w (w5.setCell ⟨bo, 0, none⟩ v') bk bs bm base bf bo K t f v' O' := by
  have hne := h.st.ne
  have row : ∀ j cs ty fr, W.heap[j]? = some (Obj.cells cs ty fr) → ty ≠ 5 → w5.heap[j]? = W.heap[j]? := fun j cs ty fr hj ht => hk j (block_lt hj) fun e => h.st.own.row_ne e hj ht rfl
  have f5 := (row bf _ _ _ h.st.f (by decide)).trans h.st.f
  have o5 := (row bo _ _ _ h.st.o (by decide)).trans h.st.o
  have k5 := (row bk _ _ _ h.st.k (by decide)).trans h.st.k
  have hZ : OwnZ N v' O' w5 := .inr hO
  have hsz : (w5.setCell ⟨bo, 0, none⟩ v').heap.size = w5.heap.size := by simp [World.setCell]
  have own : OwnZ N v' O' (w5.setCell ⟨bo, 0, none⟩ v') := hZ.keep (by rw [hsz]; exact Nat.le_refl _) fun k hk => heap_setCell_other _ _ _ _ (hZ.row_ne hk o5 (by decide))
  refine h.laid ⟨(heap_setCell_other _ _ _ _ hne.1).trans f5, set_row (i := 0) (cs := [v]) o5 v', (heap_setCell_other _ _ _ _ (Ne.symm hne.2.2)).trans k5, own⟩ ⟨hB.os, hB.tape, hB.output, by rw [hsz]; exact hB.size, fun j hj h1 h2 => (heap_setCell_other _ _ _ _ h1).trans (hk j hj h2), hn⟩ fun j hj => own.lt_size hj
/-- .. behind the bytes that are laid first -/
theorem WP.out2 {w5 : World} {o : Obj} (h : WP N w W bk bs bm base bf bo K t f v O) (hO : OwnB N v' O' w5) (hB : Below N (W.alloc o) w5) (hk : ∀ k, k < (W.alloc o).heap.size → v.ownBlock ≠ some k → w5.heap[k]? = (W.alloc o).heap[k]?) (hn : OwnNew (W.alloc o) v v') : WP N w (w5.setCell ⟨bo, 0, none⟩ v') bk bs bm base bf bo K t f v' O' :=
  (h.alloc o).out hO hB hk hn
end
open Go.RowKit Go.Maps Go.ChangeShapes Go.WideMaps Go.MapKept
set_option maxHeartbeats 1000000
set_option maxRecDepth 4000
def setIter (w : World) (r : Nat) (s : ByteArray) (pos : Nat) : World := { w with heap := w.heap.setIfInBounds r (.stringIter s pos) }
theorem setIter_here {w : World} {r : Nat} {s : ByteArray} {pos : Nat} (h : r < w.heap.size) : (setIter w r s pos).heap[r]? = some (.stringIter s pos) := by
  show (w.heap.setIfInBounds r _)[r]? = _
  rw [Array.getElem?_setIfInBounds_self_of_lt h]
theorem setIter_grown (w : World) (r : Nat) (s : ByteArray) (pos : Nat) : w.grownBy (setIter w r s pos) (some r) :=
  ⟨rfl, rfl, rfl, by simp [setIter], fun k _ hk => by
    show (w.heap.setIfInBounds r _)[k]? = _
    rw [Array.getElem?_setIfInBounds_ne fun e => hk (by rw [e])]⟩
theorem run_next_at {P : Program} {w : World} {r : Nat} {s : ByteArray} {pos : Nat} (hb : w.heap[r]? = some (.stringIter s pos)) (h : pos < s.size) (ha : (s[pos]'h).toNat < 128) (ty : TypeId) :
    (Instr.next (.pointer (some ⟨r, 0, none⟩)) true ty).run P w = .ok (.tuple #[.bool true, .int .i64 pos, .int .i32 (s[pos]'h).toNat]) (setIter w r s (pos + 1)) := by
  simp only [Instr.next, getObj, setObj, Sem.run_bind, Sem.run, hb, Result.andThen, h, if_true, decode_ascii s pos h ha]
  simp [goInt, setIter]
theorem run_next_over {P : Program} {w : World} {r : Nat} {s : ByteArray} {pos : Nat} (hb : w.heap[r]? = some (.stringIter s pos)) (h : ¬ pos < s.size) (ty : TypeId) :
    (Instr.next (.pointer (some ⟨r, 0, none⟩)) true ty).run P w = .ok (.tuple #[.bool false]) w := by
  simp [Instr.next, getObj, Sem.run, hb, h]
theorem stat_ascii : ∀ i, (h : i < (bstr statL).size) → ((bstr statL)[i]'h).toNat < 128 := by
  intro i h
  have h2 : ∀ x ∈ statL, x.toNat < 128 := by decide
  exact h2 _ (Array.getElem_mem_toList (xs := (bstr statL).data) h)
theorem note_start (w : World) (K S : ByteArray) : ∃ W, W = (((w.alloc (.cells #[.string K] 9)).alloc (.map #[] 0)).alloc (.cells #[.map (some (w.heap.size + 1))] 114)).iter S 0 ∧ NoteAt W w.heap.size (w.heap.size + 1 + 1) (w.heap.size + 1) (w.heap.size + 1 + 1) K 0 (fun j => j = w.heap.size ∨ j = w.heap.size + 1 + 1 ∨ j = w.heap.size + 1 + 1 + 1) ∧ W.heap[w.heap.size + 1 + 1 + 1]? = some (.stringIter S 0) ∧ Below w.heap.size w W := by
  obtain ⟨w1, h1⟩ : ∃ w1, w1 = w.alloc (.cells #[.string K] 9) := ⟨_, rfl⟩
  have s1 : w1.heap.size = w.heap.size + 1 := by rw [h1]; simp
  obtain ⟨w2, h2⟩ : ∃ w2, w2 = w1.alloc (.map #[] 0) := ⟨_, rfl⟩
  have s2 : w2.heap.size = w.heap.size + 1 + 1 := by rw [h2]; simp [s1]
  obtain ⟨w3, h3⟩ : ∃ w3, w3 = w2.alloc (.cells #[.map (some (w.heap.size + 1))] 114) := ⟨_, rfl⟩
  have s3 : w3.heap.size = w.heap.size + 1 + 1 + 1 := by rw [h3]; simp [s2]
  have g3 : w2.grownBy w3 none := by rw [h3]; exact World.grownBy_alloc _ _ _
  have g4 : w3.grownBy (w3.iter S 0) none := World.grownBy_alloc _ _ _
  have s4 : (w3.iter S 0).heap.size = w.heap.size + 1 + 1 + 1 + 1 := by show (w3.alloc _).heap.size = _; simp [s3]
  refine ⟨w3.iter S 0, by rw [h3, h2, h1], ?_, ?_, ?_⟩
  · have o2 := World.ownsGroups_made (H := Unit) w1 Tryd.prog 9 3 .i64
    rw [← h2, s1] at o2
    have c2 : ∀ es clock, w2.heap[w.heap.size + 1]? = some (.map es clock) → ∀ x ∈ es.toList, x.val.ownBlock = none ∨ x.val.ownBlock ≠ none := fun es clock _ x _ => by cases x.val.ownBlock <;> simp
    have o3 := o2.kept g3 (by simp) c2
    have c3 : ∀ es clock, w3.heap[w.heap.size + 1]? = some (.map es clock) → ∀ x ∈ es.toList, x.val.ownBlock = none ∨ x.val.ownBlock ≠ none := fun es clock _ x _ => by cases x.val.ownBlock <;> simp
    have o4 := o3.kept g4 (by simp) c3
    have m2 := World.Shuns_made w1 (fun j => j = w.heap.size ∨ j = w.heap.size + 1 + 1 ∨ j = w.heap.size + 1 + 1 + 1)
    rw [← h2, s1] at m2
    have m4 := (m2.kept g3 (by rw [s2]; omega) (by simp)).kept g4 (by rw [s3]; omega) (by simp)
    refine ⟨?_, ?_, ⟨0, _, Nat.le_refl _, o4, fun key _ => rfl⟩, m4, by rw [s4]; omega, fun j hj => by rw [s4]; omega⟩
    · have b1 : w1.heap[w.heap.size]? = some (.cells #[.string K] 9 (0, 0)) := by rw [h1]; exact heap_alloc_new w _
      have b2 : w2.heap[w.heap.size]? = w1.heap[w.heap.size]? := by rw [h2]; exact heap_alloc_old w1 _ (by rw [s1]; omega)
      exact ((g4.block _ (by rw [s3]; omega) (by simp)).trans ((g3.block _ (by rw [s2]; omega) (by simp)).trans b2)).trans b1
    · have b3 : w3.heap[w.heap.size + 1 + 1]? = some (.cells #[.map (some (w.heap.size + 1))] 114 (0, 0)) := by rw [h3, ← s2]; exact heap_alloc_new w2 _
      exact (g4.block _ (by rw [s3]; omega) (by simp)).trans b3
  · rw [← s3]
    exact World.iter_heap w3 S 0
  · have b := bw_alloc (bw_alloc (bw_alloc (bw_alloc (Below.refl w.heap.size w) (.cells #[.string K] 9)) (.map #[] 0)) (.cells #[.map (some (w.heap.size + 1))] 114)) (.stringIter S 0)
    rw [← h1, ← h2, ← h3] at b
    exact b
theorem WP.start {N : Nat} {w wr W5 : World} {bk bs bm base : Nat} {K : ByteArray} {t : Nat} {No : Nat → Prop} (h : NoteAt wr bk bs bm base K t No) (hB : Below N w wr) (hN : w.heap.size = N) (lo : N ≤ bk ∧ N ≤ bs ∧ N ≤ bm ∧ N ≤ base) (hNk : No bk) (hNs : No bs) (f : Nat)
    (h5 : W5 = (wr.alloc (.cells #[.slice none 0 0] 48)).alloc (.cells #[.int .i64 f] 3)) : WP N w W5 bk bs bm base (wr.heap.size + 1) wr.heap.size K t f (.slice none 0 0) [] := by
  obtain ⟨w4, h4⟩ : ∃ w4, w4 = wr.alloc (.cells #[.slice none 0 0] 48) := ⟨_, rfl⟩
  have s4 : w4.heap.size = wr.heap.size + 1 := by rw [h4]; simp
  rw [← h4] at h5
  have s5 : W5.heap.size = wr.heap.size + 1 + 1 := by rw [h5]; simp [s4]
  have g4 : wr.grownBy w4 none := by rw [h4]; exact World.grownBy_alloc _ _ _
  have g5 : w4.grownBy W5 none := by rw [h5]; exact World.grownBy_alloc _ _ _
  have n4 := h.kept g4 fun j hj => by cases hj
  have n5 := n4.kept g5 fun j hj => by cases hj
  obtain ⟨n, D, hnt, hown, hrd⟩ := h.own
  have hNb := hB.size
  have sh := ((h.sh.reno (No' := NoW bk bs (wr.heap.size + 1) wr.heap.size (.slice none 0 0)) hown fun g hg => by
    rcases hg with rfl | rfl | rfl | rfl | h1
    · exact .inl hNk
    · exact .inl hNs
    · exact .inr (Nat.le_succ _)
    · exact .inr (Nat.le_refl _)
    · cases h1).kept g4 h.lt (by simp)).kept g5 n4.lt (by simp)
  have bo4 : w4.heap[wr.heap.size]? = some (.cells #[.slice none 0 0] 48 (0, 0)) := by rw [h4]; exact heap_alloc_new wr _
  refine ⟨⟨n5.k, n5.s, n5.own, sh, n5.hb, fun g hg => ?_⟩, ⟨?_, (g5.block _ (by rw [s4]; omega) (by simp)).trans bo4, n5.k, .inl ⟨rfl, rfl, by rw [s5]; omega⟩⟩, hB.trans ⟨g5.os.trans g4.os, g5.tape.trans g4.tape, g5.output.trans g4.output, Nat.le_trans g4.size g5.size, fun k hk => ?_⟩, by omega⟩
  · rcases hg with rfl | rfl | rfl | rfl | h1
    · exact block_lt n5.k
    · exact block_lt n5.s
    · rw [s5]; omega
    · rw [s5]; omega
    · cases h1
  · rw [h5, ← s4]
    exact heap_alloc_new w4 _
  · exact (g5.block k (by omega) (by simp)).trans (g4.block k (by omega) (by simp))
open Go.RowKit
set_option maxHeartbeats 4000000
set_option maxRecDepth 4000
theorem rest_snoc {K : ByteArray} {f a : Nat} (hf : f ≤ a) (ha : a < K.size) : (K.data.toList.drop f).take (a - f) ++ [K[a]'ha] = (K.data.toList.drop f).take (a + 1 - f) := by
  have hl : K.data.toList.length = K.size := rfl
  rw [show a + 1 - f = a - f + 1 by omega, List.take_add_one, List.getElem?_drop, show f + (a - f) = a by omega, List.getElem?_eq_getElem (by rw [hl]; exact ha)]
  rfl
theorem litW_eq {K : ByteArray} {f a d : Nat} (h : a - f = d + 1) : litW K f a = UInt8.ofNat d :: (K.data.toList.drop f).take (a - f) := by
  rw [litW, if_pos (by omega), show a - f - 1 = d by omega]
theorem Two.sh {B : Nat} {v : Value} {xs : List UInt8} {u : Value} {ys : List UInt8} {w : World} (h : Two B v xs u ys w) : ∃ q c, v = .slice q xs.length c := h.one.shape
theorem byte_src3 {w W : World} {x y z : Int} {b c d : UInt8} {t : TypeId} (hx : x = (b.toNat : Int)) (hy : y = (c.toNat : Int)) (hz : z = (d.toNat : Int)) (h : W.heap[w.heap.size]? = some (.cells #[.int .u8 x, .int .u8 y, .int .u8 z] t (0, 0))) : Src Tryd.prog 1 48 (.slice (some ⟨w.heap.size, 0, none⟩) 3 3) [b, c, d].length (u8s [b, c, d]) W := by
  subst hx hy hz
  refine Src.ofSlice W Tryd.underlying48 ⟨w.heap.size, 0, none⟩ 3 3 (u8s [b, c, d]) rfl (fun j u hj => ?_) (u8s_one _)
  have hadd : (⟨w.heap.size, 0, none⟩ : Addr).add j = ⟨w.heap.size, j, none⟩ := by unfold Addr.add; split <;> simp_all
  rw [hadd, cell_of_row W w.heap.size _ _ _ _ h]
  rw [← List.getElem?_toArray] at hj
  exact hj
theorem Two.sh2 {B : Nat} {v : Value} {xs : List UInt8} {u : Value} {ys : List UInt8} {w : World} (h : Two B v xs u ys w) : ∃ q n c, v = .slice q n c ∧ n = xs.length := by
  obtain ⟨q, c, h⟩ := h.one.shape
  exact ⟨q, _, c, h, rfl⟩
theorem rwpack7_any (s : ByteArray) (w : World) (hs : s.size ≤ 65536) :
    Calls Tryd.prog 51 #[.string s] w fun e w' => e = .returned (.string (bstr (wpk s.data.toList))) ∧ Below w.heap.size w w' := by
  obtain ⟨S, hS⟩ : ∃ S, S = bstr statL := ⟨_, rfl⟩
  have hS68 : S.size = 68 := by rw [hS]; rfl
  have HSt : Hid (∀ w, Calls Tryd.prog 77 #[] w fun e w' => e = .returned (.string S) ∧ Below w.heap.size w w') := show ∀ w, _ from fun w => by rw [hS]; exact static_any w
  obtain ⟨K, hK⟩ : ∃ K, K = S ++ s := ⟨_, rfl⟩
  have hKs : K.size = s.size + 68 := by rw [hK, ByteArray.size_append, hS68]; omega
  obtain ⟨R, hR⟩ : ∃ R, R = wpk s.data.toList := ⟨_, rfl⟩
  have HR : Hid (wpF K 68 68 = R) := show _ = _ from by rw [hR, hK, hS, wpk, ← bstr_append]; rfl
  have hRl : R.length ≤ 131072 := by
    have := wpF_length K _ 68 68 (Nat.le_refl _) (Nat.le_refl _) (by omega)
    rw [HR.out] at this
    omega
  rw [← hR]
  have hKb : K.size ≤ 65604 := by omega
  have hK68 : 68 ≤ K.size := by omega
  clear hKs
  have HK := Lib.hid hK
  have hsz : S.size + s.size ≤ 9223372036854775807 := by omega
  clear hR hS hK
  have HS68 := Lib.hid hS68
  clear hS68
  go_enter Tryd.func51, Tryd.ntmps51
  go_wp2_with fail
  refine (HSt.out _).mono ?_
  rintro e w1 ⟨rfl, hb1⟩
  have HB1 := Lib.hid hb1
  have h0 : OwnZ w.heap.size (.slice (some ⟨w1.heap.size, 0, none⟩) 0 0) [] (w1.alloc (.cells #[] 5)) := .inr ⟨w1.heap.size, 0, [], (0, 0), rfl, hb1.size, heap_alloc_new w1 _, rfl, by decide, .inl rfl⟩
  have h1 := Two.fresh h0
  rw [show (w1.alloc (.cells #[] 5)).heap.size = w1.heap.size + 1 by simp] at h1
  have H1 := Lib.hid h1
  have HW1 := Lib.hid (bw_alloc (bw_alloc hb1 (.cells #[] 5)) (.cells #[] 5))
  clear hb1 h0 h1
  go_wp2_with fail
  rw [← HK.out]
  refine (HSt.out _).mono ?_
  rintro e w2 ⟨rfl, hb2⟩
  have HT0 := Lib.hid (H1.out.below hb2 (Nat.le_refl _))
  have HB0 := Lib.hid (bw_call HW1.out hb2)
  clear hb2
  go_wp2_with fail
  go_loopw [4, 5, 6] (fun b r at_ wr => ∃ (a f : Nat) (q : Option Addr) (nn c : Nat) (q2 : Option Addr) (n2 c2 : Nat) (O RR : List UInt8), a ≤ K.size ∧ f ≤ a ∧ n2 < 128 ∧ at_ = .int .i64 a ∧ b = .slice q nn c ∧ r = .slice q2 n2 c2 ∧ Hid (n2 = a - f) ∧ Hid (a = K.size → f = a) ∧ Hid (RR = (K.data.toList.drop f).take (a - f)) ∧ Hid (O ++ wpF K a f = R) ∧ Hid (Two w.heap.size (.slice q nn c) O (.slice q2 n2 c2) RR wr) ∧ Hid (Below w.heap.size w wr)) (fun _ _ at_ _ => K.size - (intOf at_).toNat)
  case atStart => exact ⟨68, 68, _, _, _, _, _, _, [], [], by omega, by omega, by omega, by rw [HS68.out], rfl, rfl, show _ = _ from rfl, show _ → _ from fun _ => rfl, show _ = _ from by simp, HR, HT0, HB0⟩
  case round =>
    obtain ⟨a, f, q, nn, c, q2, n2, c2, O, RR, ha, hf, hn2, rfl, rfl, rfl, HN2, HAF, HRR, HEQ, HT, HB⟩ := hrel
    have hOl : O.length ≤ 131072 := by
      have h1 := congrArg List.length HEQ.out
      rw [List.length_append] at h1
      omega
    by_cases hlt : a < K.size
    · have d0 : decide ((a : Int) < K.size) = true := decide_eq_true (by omega)
      have f0 : (0 : Int) ≤ a := by omega
      have f1 : (a : Int) < K.size := by omega
      have hc0 := fun w => best_any K a w (by omega) ha
      obtain ⟨n, bk, hnb⟩ : ∃ n b, bst K a = (n, b) := ⟨_, _, rfl⟩
      rw [hnb] at hc0
      have hbl := bstD_le ha (min a 32768)
      have hbe : bstD K a (min a 32768) = (n, bk) := hnb
      rw [hbe] at hbl
      have hnl : n ≤ 130 := hbl.1
      have hna : a + n ≤ K.size := hbl.2.1
      have hbk : bk ≤ 32768 := by have := hbl.2.2.1; simp only at this; omega
      have hbk1 : 0 < n → 1 ≤ bk := hbl.2.2.2
      have HC0 := Lib.hid hc0
      have HNB := Lib.hid hnb
      clear hc0 hnb hbl hbe
      have e1 : IntKind.i64.wrap ((a : Int) + 1) = ((a + 1 : Nat) : Int) := by rw [IntWalk.i64_in _ (by omega)]; omega
      by_cases h4 : n < 4
      · have d1 : decide ((n : Int) < 4) = true := decide_eq_true (by omega)
        have d2 : decide ((4 : Int) ≤ n) = false := decide_eq_false (by omega)
        obtain ⟨d, hd⟩ : ∃ d, d = a - f := ⟨_, rfl⟩
        have hd1 : a + 1 - f = d + 1 := by omega
        have hRl2 : RR.length = d := by
          have hl : K.data.toList.length = K.size := rfl
          rw [HRR.out, List.length_take, List.length_drop, hl]; omega
        have hd127 : d < 128 := by have := HN2.out; omega
        have HRS : Hid (RR ++ [K[a]'hlt] = (K.data.toList.drop f).take (a + 1 - f)) := show _ = _ from by rw [HRR.out]; exact rest_snoc hf hlt
        have HLW : Hid (litW K f (a + 1) = UInt8.ofNat d :: (RR ++ [K[a]'hlt])) := show _ = _ from by rw [litW_eq hd1, HRS.out]
        have HLIT : Hid (a + 1 - f ≠ 128 → wpF K a f = wpF K (a + 1) f) := show _ → _ from fun h => wpF_lit hlt (by rw [HNB.out]; exact h4) h
        have HCUT : Hid (a + 1 - f = 128 → wpF K a f = litW K f (a + 1) ++ wpF K (a + 1) (a + 1)) := show _ → _ from fun h => wpF_cut hlt (by rw [HNB.out]; exact h4) h
        have HLAST : Hid (a + 1 = K.size → wpF K a f = litW K f (a + 1) ++ wpF K (a + 1) (a + 1)) := show _ → _ from fun h => wpF_last hlt (by rw [HNB.out]; exact h4) h
        have HDC : Hid ((d : Int) = ((UInt8.ofNat d).toNat : Int)) := show _ = _ from by rw [UInt8.toNat_ofNat_of_lt' (show d < 256 by omega)]
        have g6 : IntKind.u8.wrap (d : Int) = d := IntWalk.u8_in _ (by omega)
        have HD1 := Lib.hid hd1
        clear hd hd1
        obtain ⟨a1, ha1⟩ : ∃ x, x = a + 1 := ⟨_, rfl⟩
        rw [← ha1] at e1 HRS HLW HLIT HCUT HLAST HD1
        have HA1 := Lib.hid ha1
        have HRL2 := Lib.hid hRl2
        clear ha1 hRl2
        have HBITS : Hid (∀ n4, n4 = (RR ++ [K[a]'hlt]).length → n4 = d + 1) := show ∀ n4, _ from fun n4 h => by rw [h, List.length_append, HRL2.out]; rfl
        by_cases hend : a1 = K.size
        · have x2 : ((a1 : Int) == K.size) = true := by rw [hend]; simp
          have HEND := Lib.hid hend
          have hend1 : a1 ≤ K.size := by omega
          clear hend
          by_cases hcut : d = 127
          · have hcut1 : 127 ≤ d := by omega
            clear hcut
            go_wp2_with fail
            refine (HC0.out _).mono ?_
            rintro e w3 ⟨rfl, hb3⟩
            have HT3 := Lib.hid (HT.out.below hb3 (Nat.le_refl _))
            have HB3 := Lib.hid (bw_call HB.out hb3)
            clear hb3
            have HTA := Lib.hid (HT3.out.below (bw_alloc (Below.refl w3.heap.size w3) (.cells #[.int .u8 ((K[a]'hlt).toNat : Int)] 5)) (Nat.le_refl _)).swap
            have HWA := Lib.hid (bw_alloc HB3.out (.cells #[.int .u8 ((K[a]'hlt).toNat : Int)] 5))
            go_wp2_with (first
              | (at_builtin; refine wpList_appTwo rfl (.tmp 28) (.tmp 32) 48 rfl w.heap.size (.slice q2 n2 c2) RR (.slice q nn c) O rfl HTA.out _ rfl [K[a]'hlt] (byte_src rfl (heap_alloc_new w3 _)) Nat.one_pos (by rw [HRL2.out]; simp; omega) ?_; intro v4 w4 HT4 HB4; obtain ⟨q4, n4, c4, rfl, hn4⟩ := Two.sh2 HT4.out; have hn5 := HBITS.out n4 hn4; have HN4 := Lib.hid hn4; clear hn4; have x0 : decide ((0 : Int) < n4) = true := decide_eq_true (by omega); have y0 : decide (0 < n4) = true := decide_eq_true (by omega); have z0 : 0 < n4 := (by omega); have x1 : ((n4 : Int) == 128) = true := (by rw [beq_iff_eq]; omega); have g5 : IntKind.i64.wrap ((n4 : Int) - 1) = (d : Int) := (by rw [IntWalk.i64_in _ (by omega)]; omega); have HN5 := Lib.hid hn5; clear hn5; have HTC := Lib.hid (HT4.out.swap.below (bw_alloc (Below.refl w4.heap.size w4) (.cells #[.int .u8 (d : Int)] 5)) (Nat.le_refl _)); have HWC := Lib.hid (bw_alloc (HWA.out.trans HB4.out) (.cells #[.int .u8 (d : Int)] 5)))
              | (at_builtin; refine wpList_appTwo rfl (.tmp 54) (.tmp 59) 48 rfl w.heap.size (.slice q nn c) O (.slice q4 n4 c4) (RR ++ [K[a]'hlt]) rfl HTC.out _ rfl [UInt8.ofNat d] (byte_src HDC.out (heap_alloc_new w4 _)) Nat.one_pos (by simp; omega) ?_; intro v5 w5 HT5 HB5; obtain ⟨q5, n5, c5, rfl⟩ := OwnZ.sh HT5.out.one; have HW5 := Lib.hid (HWC.out.trans HB5.out))
              | (at_builtin; refine wpList_appTwo rfl (.tmp 61) (.tmp 62) 48 rfl w.heap.size (.slice q5 n5 c5) (O ++ [UInt8.ofNat d]) (.slice q4 n4 c4) (RR ++ [K[a]'hlt]) rfl HT5.out _ rfl (RR ++ [K[a]'hlt]) (HT5.out.two.src (by rw [← HN4.out, HN5.out]; omega)) (by rw [← HN4.out, HN5.out]; omega) (by rw [← HN4.out, HN5.out]; simp; omega) ?_; intro v6 w6 HT6 HB6; obtain ⟨q6, n6, c6, rfl⟩ := OwnZ.sh HT6.out.one; have HW6 := Lib.hid (bw_alloc (HW5.out.trans HB6.out) (.cells #[] 5)); have HT7 := Lib.hid (Two.fresh HT6.out.one)))
            go_roundw
            case rel => exact ⟨a1, a1, q6, n6, c6, _, 0, 0, _, [], by have := HA1.out; omega, by omega, by omega, by go_num, rfl, rfl, show _ = _ from by omega, show _ → _ from fun _ => rfl, show _ = _ from by simp, show _ = _ from by rw [← HEQ.out, HLAST.out HEND.out, HLW.out]; simp [List.append_assoc], HT7.out, HW6⟩
            case measure => simp [intOf]; have := HA1.out; omega
          · go_wp2_with fail
            refine (HC0.out _).mono ?_
            rintro e w3 ⟨rfl, hb3⟩
            have HT3 := Lib.hid (HT.out.below hb3 (Nat.le_refl _))
            have HB3 := Lib.hid (bw_call HB.out hb3)
            clear hb3
            have HTA := Lib.hid (HT3.out.below (bw_alloc (Below.refl w3.heap.size w3) (.cells #[.int .u8 ((K[a]'hlt).toNat : Int)] 5)) (Nat.le_refl _)).swap
            have HWA := Lib.hid (bw_alloc HB3.out (.cells #[.int .u8 ((K[a]'hlt).toNat : Int)] 5))
            go_wp2_with (first
              | (at_builtin; refine wpList_appTwo rfl (.tmp 28) (.tmp 32) 48 rfl w.heap.size (.slice q2 n2 c2) RR (.slice q nn c) O rfl HTA.out _ rfl [K[a]'hlt] (byte_src rfl (heap_alloc_new w3 _)) Nat.one_pos (by rw [HRL2.out]; simp; omega) ?_; intro v4 w4 HT4 HB4; obtain ⟨q4, n4, c4, rfl, hn4⟩ := Two.sh2 HT4.out; have hn5 := HBITS.out n4 hn4; have HN4 := Lib.hid hn4; clear hn4; have x0 : decide ((0 : Int) < n4) = true := decide_eq_true (by omega); have y0 : decide (0 < n4) = true := decide_eq_true (by omega); have z0 : 0 < n4 := (by omega); have x1 : ((n4 : Int) == 128) = false := (by rw [beq_eq_false_iff_ne]; omega); have g5 : IntKind.i64.wrap ((n4 : Int) - 1) = (d : Int) := (by rw [IntWalk.i64_in _ (by omega)]; omega); have HN5 := Lib.hid hn5; clear hn5; have HTC := Lib.hid (HT4.out.swap.below (bw_alloc (Below.refl w4.heap.size w4) (.cells #[.int .u8 (d : Int)] 5)) (Nat.le_refl _)); have HWC := Lib.hid (bw_alloc (HWA.out.trans HB4.out) (.cells #[.int .u8 (d : Int)] 5)))
              | (at_builtin; refine wpList_appTwo rfl (.tmp 54) (.tmp 59) 48 rfl w.heap.size (.slice q nn c) O (.slice q4 n4 c4) (RR ++ [K[a]'hlt]) rfl HTC.out _ rfl [UInt8.ofNat d] (byte_src HDC.out (heap_alloc_new w4 _)) Nat.one_pos (by simp; omega) ?_; intro v5 w5 HT5 HB5; obtain ⟨q5, n5, c5, rfl⟩ := OwnZ.sh HT5.out.one; have HW5 := Lib.hid (HWC.out.trans HB5.out))
              | (at_builtin; refine wpList_appTwo rfl (.tmp 61) (.tmp 62) 48 rfl w.heap.size (.slice q5 n5 c5) (O ++ [UInt8.ofNat d]) (.slice q4 n4 c4) (RR ++ [K[a]'hlt]) rfl HT5.out _ rfl (RR ++ [K[a]'hlt]) (HT5.out.two.src (by rw [← HN4.out, HN5.out]; omega)) (by rw [← HN4.out, HN5.out]; omega) (by rw [← HN4.out, HN5.out]; simp; omega) ?_; intro v6 w6 HT6 HB6; obtain ⟨q6, n6, c6, rfl⟩ := OwnZ.sh HT6.out.one; have HW6 := Lib.hid (bw_alloc (HW5.out.trans HB6.out) (.cells #[] 5)); have HT7 := Lib.hid (Two.fresh HT6.out.one)))
            go_roundw
            case rel => exact ⟨a1, a1, q6, n6, c6, _, 0, 0, _, [], by have := HA1.out; omega, by omega, by omega, by go_num, rfl, rfl, show _ = _ from by omega, show _ → _ from fun _ => rfl, show _ = _ from by simp, show _ = _ from by rw [← HEQ.out, HLAST.out HEND.out, HLW.out]; simp [List.append_assoc], HT7.out, HW6⟩
            case measure => simp [intOf]; have := HA1.out; omega
        · have x2 : ((a1 : Int) == K.size) = false := by rw [beq_eq_false_iff_ne]; omega
          by_cases hcut : d = 127
          · have hcut1 : 127 ≤ d := by omega
            clear hcut
            go_wp2_with fail
            refine (HC0.out _).mono ?_
            rintro e w3 ⟨rfl, hb3⟩
            have HT3 := Lib.hid (HT.out.below hb3 (Nat.le_refl _))
            have HB3 := Lib.hid (bw_call HB.out hb3)
            clear hb3
            have HTA := Lib.hid (HT3.out.below (bw_alloc (Below.refl w3.heap.size w3) (.cells #[.int .u8 ((K[a]'hlt).toNat : Int)] 5)) (Nat.le_refl _)).swap
            have HWA := Lib.hid (bw_alloc HB3.out (.cells #[.int .u8 ((K[a]'hlt).toNat : Int)] 5))
            go_wp2_with (first
              | (at_builtin; refine wpList_appTwo rfl (.tmp 28) (.tmp 32) 48 rfl w.heap.size (.slice q2 n2 c2) RR (.slice q nn c) O rfl HTA.out _ rfl [K[a]'hlt] (byte_src rfl (heap_alloc_new w3 _)) Nat.one_pos (by rw [HRL2.out]; simp; omega) ?_; intro v4 w4 HT4 HB4; obtain ⟨q4, n4, c4, rfl, hn4⟩ := Two.sh2 HT4.out; have hn5 := HBITS.out n4 hn4; have HN4 := Lib.hid hn4; clear hn4; have x0 : decide ((0 : Int) < n4) = true := decide_eq_true (by omega); have y0 : decide (0 < n4) = true := decide_eq_true (by omega); have z0 : 0 < n4 := (by omega); have x1 : ((n4 : Int) == 128) = true := (by rw [beq_iff_eq]; omega); have g5 : IntKind.i64.wrap ((n4 : Int) - 1) = (d : Int) := (by rw [IntWalk.i64_in _ (by omega)]; omega); have HN5 := Lib.hid hn5; clear hn5; have HTC := Lib.hid (HT4.out.swap.below (bw_alloc (Below.refl w4.heap.size w4) (.cells #[.int .u8 (d : Int)] 5)) (Nat.le_refl _)); have HWC := Lib.hid (bw_alloc (HWA.out.trans HB4.out) (.cells #[.int .u8 (d : Int)] 5)))
              | (at_builtin; refine wpList_appTwo rfl (.tmp 54) (.tmp 59) 48 rfl w.heap.size (.slice q nn c) O (.slice q4 n4 c4) (RR ++ [K[a]'hlt]) rfl HTC.out _ rfl [UInt8.ofNat d] (byte_src HDC.out (heap_alloc_new w4 _)) Nat.one_pos (by simp; omega) ?_; intro v5 w5 HT5 HB5; obtain ⟨q5, n5, c5, rfl⟩ := OwnZ.sh HT5.out.one; have HW5 := Lib.hid (HWC.out.trans HB5.out))
              | (at_builtin; refine wpList_appTwo rfl (.tmp 61) (.tmp 62) 48 rfl w.heap.size (.slice q5 n5 c5) (O ++ [UInt8.ofNat d]) (.slice q4 n4 c4) (RR ++ [K[a]'hlt]) rfl HT5.out _ rfl (RR ++ [K[a]'hlt]) (HT5.out.two.src (by rw [← HN4.out, HN5.out]; omega)) (by rw [← HN4.out, HN5.out]; omega) (by rw [← HN4.out, HN5.out]; simp; omega) ?_; intro v6 w6 HT6 HB6; obtain ⟨q6, n6, c6, rfl⟩ := OwnZ.sh HT6.out.one; have HW6 := Lib.hid (bw_alloc (HW5.out.trans HB6.out) (.cells #[] 5)); have HT7 := Lib.hid (Two.fresh HT6.out.one)))
            go_roundw
            case rel => exact ⟨a1, a1, q6, n6, c6, _, 0, 0, _, [], by have := HA1.out; omega, by omega, by omega, by go_num, rfl, rfl, show _ = _ from by omega, show _ → _ from fun _ => rfl, show _ = _ from by simp, show _ = _ from by rw [← HEQ.out, HCUT.out (by have := HD1.out; omega), HLW.out]; simp [List.append_assoc], HT7.out, HW6⟩
            case measure => simp [intOf]; have := HA1.out; omega
          · go_wp2_with fail
            refine (HC0.out _).mono ?_
            rintro e w3 ⟨rfl, hb3⟩
            have HT3 := Lib.hid (HT.out.below hb3 (Nat.le_refl _))
            have HB3 := Lib.hid (bw_call HB.out hb3)
            clear hb3
            have HTA := Lib.hid (HT3.out.below (bw_alloc (Below.refl w3.heap.size w3) (.cells #[.int .u8 ((K[a]'hlt).toNat : Int)] 5)) (Nat.le_refl _)).swap
            have HWA := Lib.hid (bw_alloc HB3.out (.cells #[.int .u8 ((K[a]'hlt).toNat : Int)] 5))
            go_wp2_with ((at_builtin; refine wpList_appTwo rfl (.tmp 28) (.tmp 32) 48 rfl w.heap.size (.slice q2 n2 c2) RR (.slice q nn c) O rfl HTA.out _ rfl [K[a]'hlt] (byte_src rfl (heap_alloc_new w3 _)) Nat.one_pos (by rw [HRL2.out]; simp; omega) ?_); intro v4 w4 HT4 HB4; obtain ⟨q4, n4, c4, rfl, hn4⟩ := Two.sh2 HT4.out; have hn5 := HBITS.out n4 hn4; clear hn4; have x0 : decide ((0 : Int) < n4) = true := decide_eq_true (by omega); have y0 : decide (0 < n4) = true := decide_eq_true (by omega); have z0 : 0 < n4 := (by omega); have x1 : ((n4 : Int) == 128) = false := (by rw [beq_eq_false_iff_ne]; omega); have HN5 := Lib.hid hn5; clear hn5)
            have HW4 := Lib.hid (HWA.out.trans HB4.out)
            go_roundw
            case rel => exact ⟨a1, f, q, nn, c, q4, n4, c4, O, _, by have := HA1.out; omega, by have := HA1.out; omega, by have := HN5.out; omega, by go_num, rfl, rfl, show _ = _ from by have := HD1.out; have := HN5.out; omega, show _ → _ from fun h => absurd h hend, HRS, show _ = _ from by rw [← HLIT.out (by have := HD1.out; omega)]; exact HEQ.out, HT4.out.swap, HW4⟩
            case measure => simp [intOf]; have := HA1.out; omega
      · have d1 : decide ((n : Int) < 4) = false := decide_eq_false (by omega)
        have d2 : decide ((4 : Int) ≤ n) = true := decide_eq_true (by omega)
        have h4' : 4 ≤ n := by omega
        obtain ⟨M, hM⟩ : ∃ M, M = n + 124 := ⟨_, rfl⟩
        obtain ⟨D, hD⟩ : ∃ D, bk = D + 1 := ⟨bk - 1, by have := hbk1 (by omega); omega⟩
        obtain ⟨an, han⟩ : ∃ x, x = a + n := ⟨_, rfl⟩
        have g1 : IntKind.i64.wrap ((n : Int) + 124) = (M : Int) := by rw [IntWalk.i64_in _ (by omega)]; omega
        have g2 : IntKind.u8.wrap (M : Int) = M := IntWalk.u8_in _ (by omega)
        have g3 : IntKind.i64.wrap ((bk : Int) - 1) = (D : Int) := by rw [IntWalk.i64_in _ (by omega)]; omega
        have g4 : IntKind.i64.wrap ((a : Int) + n) = (an : Int) := by rw [IntWalk.i64_in _ (by omega)]; omega
        have HRL3 : Hid (RR.length = n2) := show _ = _ from by
          have hl : K.data.toList.length = K.size := rfl
          have := HN2.out
          rw [HRR.out, List.length_take, List.length_drop, hl]; omega
        have HMT : Hid (wpF K a f = litW K f a ++ (mtW n bk ++ wpF K an an)) := show _ = _ from by rw [han]; exact wpF_match hlt HNB.out h4'
        have HAN := Lib.hid han
        have HM := Lib.hid hM
        have HD := Lib.hid hD
        have han1 : a < an := by omega
        have han2 : an ≤ K.size := by omega
        have hM2 : M < 256 := by omega
        have hD2 : D < 32768 := by omega
        clear hM hD han
        have HM1 : Hid ((M : Int) = ((UInt8.ofNat M).toNat : Int)) := show _ = _ from by rw [UInt8.toNat_ofNat_of_lt' (show M < 256 by omega)]
        have HM3 : Hid ((D : Int) / 256 = ((UInt8.ofNat (D / 256)).toNat : Int)) := show _ = _ from by rw [UInt8.toNat_ofNat_of_lt' (show D / 256 < 256 by omega)]; omega
        have HM4 : Hid ((D : Int) % 256 = ((UInt8.ofNat (D % 256)).toNat : Int)) := show _ = _ from by rw [UInt8.toNat_ofNat_of_lt' (show D % 256 < 256 by omega)]; omega
        have HMW : Hid (mtW n bk = [UInt8.ofNat M, UInt8.ofNat (D / 256), UInt8.ofNat (D % 256)]) := show _ = _ from by rw [HM.out, HD.out]; rfl
        by_cases hfa : f < a
        · obtain ⟨d, hd⟩ : ∃ d, a - f = d + 1 := ⟨a - f - 1, by omega⟩
          have HLW : Hid (litW K f a = UInt8.ofNat d :: RR) := show _ = _ from by rw [litW_eq hd, HRR.out]
          have HN5 : Hid (n2 = d + 1) := show _ = _ from by rw [HN2.out, hd]
          have hn51 : n2 ≤ d + 1 := by rw [HN5.out]; omega
          have hn52 : d + 1 ≤ n2 := by rw [HN5.out]; omega
          have x0 : decide ((0 : Int) < n2) = true := decide_eq_true (by omega)
          have y0 : decide (0 < n2) = true := decide_eq_true (by omega)
          have z0 : 0 < n2 := by omega
          have g5 : IntKind.i64.wrap ((n2 : Int) - 1) = (d : Int) := by rw [IntWalk.i64_in _ (by omega)]; omega
          have g6 : IntKind.u8.wrap (d : Int) = d := IntWalk.u8_in _ (by omega)
          have HDC : Hid ((d : Int) = ((UInt8.ofNat d).toNat : Int)) := show _ = _ from by rw [UInt8.toNat_ofNat_of_lt' (show d < 256 by omega)]
          clear hd
          go_wp2_with fail
          refine (HC0.out _).mono ?_
          rintro e w3 ⟨rfl, hb3⟩
          have HT3 := Lib.hid (HT.out.below hb3 (Nat.le_refl _))
          have HB3 := Lib.hid (bw_call HB.out hb3)
          clear hb3
          have HTC := Lib.hid (HT3.out.below (bw_alloc (Below.refl w3.heap.size w3) (.cells #[.int .u8 (d : Int)] 5)) (Nat.le_refl _))
          have HWC := Lib.hid (bw_alloc HB3.out (.cells #[.int .u8 (d : Int)] 5))
          go_wp2_with (first
            | (at_builtin; refine wpList_appTwo rfl (.tmp 54) (.tmp 59) 48 rfl w.heap.size (.slice q nn c) O (.slice q2 n2 c2) RR rfl HTC.out _ rfl [UInt8.ofNat d] (byte_src HDC.out (heap_alloc_new w3 _)) Nat.one_pos (by simp; omega) ?_; intro v5 w5 HT5 HB5; obtain ⟨q5, n5, c5, rfl⟩ := OwnZ.sh HT5.out.one; have HW5 := Lib.hid (HWC.out.trans HB5.out))
            | (at_builtin; refine wpList_appTwo rfl (.tmp 61) (.tmp 62) 48 rfl w.heap.size (.slice q5 n5 c5) (O ++ [UInt8.ofNat d]) (.slice q2 n2 c2) RR rfl HT5.out _ rfl RR (HT5.out.two.src (by rw [HRL3.out]; omega)) (by rw [HRL3.out]; omega) (by rw [HRL3.out]; simp; omega) ?_; intro v6 w6 HT6 HB6; obtain ⟨q6, n6, c6, rfl⟩ := OwnZ.sh HT6.out.one; have h9 := byte_src3 (w := w6.alloc (.cells #[] 5)) (W := (w6.alloc (.cells #[] 5)).alloc (.cells #[.int .u8 (M : Int), .int .u8 ((D : Int) / 256), .int .u8 ((D : Int) % 256)] 5)) (t := 5) HM1.out HM3.out HM4.out (heap_alloc_new _ _); rw [show (w6.alloc (.cells #[] 5)).heap.size = w6.heap.size + 1 by simp] at h9; have HS9 := Lib.hid h9; clear h9; have HT7 := Lib.hid ((Two.fresh HT6.out.one).below (bw_alloc (Below.refl _ _) (.cells #[.int .u8 (M : Int), .int .u8 ((D : Int) / 256), .int .u8 ((D : Int) % 256)] 5)) (Nat.le_refl _)); have HW7 := Lib.hid (bw_alloc (bw_alloc (HW5.out.trans HB6.out) (.cells #[] 5)) (.cells #[.int .u8 (M : Int), .int .u8 ((D : Int) / 256), .int .u8 ((D : Int) % 256)] 5)))
            | (at_builtin; refine wpList_appTwo rfl (.tmp 67) (.tmp 79) 48 rfl w.heap.size (.slice q6 n6 c6) (O ++ [UInt8.ofNat d] ++ RR) _ [] rfl HT7.out _ rfl [UInt8.ofNat M, UInt8.ofNat (D / 256), UInt8.ofNat (D % 256)] HS9.out (Nat.succ_pos _) (by simp [HRL3.out]; omega) ?_; intro v8 w8 HT8 HB8; obtain ⟨q8, n8, c8, rfl⟩ := OwnZ.sh HT8.out.one; have HW8 := Lib.hid (HW7.out.trans HB8.out)))
          go_roundw
          case rel => exact ⟨an, an, q8, n8, c8, _, 0, 0, _, [], by omega, by omega, by omega, by go_num, rfl, rfl, show _ = _ from by omega, show _ → _ from fun _ => rfl, show _ = _ from by simp, show _ = _ from by rw [← HEQ.out, HMT.out, HLW.out, HMW.out]; simp [List.append_assoc], HT8.out, HW8⟩
          case measure => simp [intOf]; omega
        · have hn0 : n2 ≤ 0 := by have := HN2.out; omega
          have x0 : decide ((0 : Int) < n2) = false := decide_eq_false (by omega)
          have y0 : decide (0 < n2) = false := decide_eq_false (by omega)
          have HLW : Hid (litW K f a = []) := show _ = _ from by rw [litW, if_neg hfa]
          have HRN : Hid (RR = []) := show _ = _ from List.length_eq_zero_iff.1 (by rw [HRL3.out]; omega)
          go_wp2_with fail
          refine (HC0.out _).mono ?_
          rintro e w3 ⟨rfl, hb3⟩
          have HT3 := Lib.hid (HT.out.below hb3 (Nat.le_refl _))
          have HB3 := Lib.hid (bw_call HB.out hb3)
          clear hb3
          have HTC := Lib.hid (HT3.out.below (bw_alloc (Below.refl w3.heap.size w3) (.cells #[.int .u8 (M : Int), .int .u8 ((D : Int) / 256), .int .u8 ((D : Int) % 256)] 5)) (Nat.le_refl _))
          have HWC := Lib.hid (bw_alloc HB3.out (.cells #[.int .u8 (M : Int), .int .u8 ((D : Int) / 256), .int .u8 ((D : Int) % 256)] 5))
          go_wp2_with (at_builtin; refine wpList_appTwo rfl (.tmp 67) (.tmp 79) 48 rfl w.heap.size (.slice q nn c) O (.slice q2 n2 c2) RR rfl HTC.out _ rfl [UInt8.ofNat M, UInt8.ofNat (D / 256), UInt8.ofNat (D % 256)] (byte_src3 HM1.out HM3.out HM4.out (heap_alloc_new w3 _)) (Nat.succ_pos _) (by simp; omega) ?_; intro v8 w8 HT8 HB8; obtain ⟨q8, n8, c8, rfl⟩ := OwnZ.sh HT8.out.one; have HW8 := Lib.hid (HWC.out.trans HB8.out))
          go_roundw
          case rel => exact ⟨an, an, q8, n8, c8, _, n2, c2, _, RR, by omega, by omega, by omega, by go_num, rfl, rfl, show _ = _ from by omega, show _ → _ from fun _ => rfl, show _ = _ from by rw [HRN.out]; simp, show _ = _ from by rw [← HEQ.out, HMT.out, HLW.out, HMW.out]; simp [List.append_assoc], HT8.out, HW8⟩
          case measure => simp [intOf]; omega
    · obtain rfl : a = K.size := by omega
      have d0 : decide ((K.size : Int) < K.size) = false := decide_eq_false (by omega)
      have hcv : (convert 48 9 (.slice q nn c)).run Tryd.prog wr = .ok (.string (bstr R)) wr := by
        have h1 := HT.out.one.conv
        have h2 := HEQ.out
        rw [HAF.out rfl, wpF_end (Nat.le_refl _), litW_none, List.append_nil] at h2
        rw [h2] at h1
        exact h1
      go_wp2_with fail
      go_ret
      exact ⟨rfl, HB.out⟩
open Go.RowKit
set_option maxHeartbeats 4000000
set_option maxRecDepth 4000
theorem exec_look {P : Program} {o : Oper} {a : Act} {w : World} (t : TypeId) (m x : Operand) (hop : o.op = Op.lookup t m x false) {mv xv v : Value} (hm : a.eval m = mv) (hx : a.eval x = xv) (hr : (Instr.lookup t mv xv false).run P w = .ok v w) : (execOp a.eval o).run P w = .ok (.value v) w := by
  simp [execOp, hop, hm, hx, hr, Result.andThen]
theorem wpList_appZ2 {ops : Array Oper} {rest : List Oper} {o : Oper} {a : Act} {w : World} {Q : Exit → Act → World → Prop} (hgd : o.guard = none) (sl x : Operand) (tx : TypeId) (ho : o.op = .call { callee := .builtin .append, args := #[sl, x], argTypes := #[48, tx] }) (B : Nat) (v : Value) (xs : List UInt8) (hv : a.eval sl = v) (h : OwnZ B v xs w)
    (xv : Value) (hx : a.eval x = xv) (ys : List UInt8) (hs : Src Tryd.prog 1 tx xv ys.length (u8s ys) w) (hy : 0 < ys.length) (hl : xs.length + ys.length ≤ 140737488355328)
    (hK : ∀ v' w', Hid (OwnB B v' (xs ++ ys) w') → Hid (Below B w w') → Hid (∀ k, k < w.heap.size → v.ownBlock ≠ some k → w'.heap[k]? = w.heap[k]?) → Hid (OwnNew w v v') → wpList Tryd.prog ops Q rest (a.put o.dst v') w') : wpList Tryd.prog ops Q (o :: rest) a w :=
  wpList_plain hgd fun _K hK' => wp_appZ2 sl x tx ho B v xs hv h xv hx ys hs hy hl fun v' w' h1 h2 h3 h4 => hK' _ _ (hK v' w' h1 h2 h3 h4)
theorem wpack_any (s : ByteArray) (w : World) (hs : s.size ≤ 65536) :
    Calls Tryd.prog 84 #[.string s] w fun e w' => e = .returned (.string (bstr (wpk s.data.toList))) ∧ Below w.heap.size w w' := by
  obtain ⟨K, hK⟩ : ∃ K, K = bstr statL ++ s := ⟨_, rfl⟩
  have hKs : K.size = s.size + 68 := by rw [hK, ByteArray.size_append]; show 68 + _ = _; omega
  obtain ⟨R, hR⟩ : ∃ R, R = wpk s.data.toList := ⟨_, rfl⟩
  have HR : Hid (wpF K 68 68 = R) := show _ = _ from by rw [hR, hK, wpk, ← bstr_append]; rfl
  have hRl : R.length ≤ 131072 := by
    have := wpF_length K _ 68 68 (Nat.le_refl _) (Nat.le_refl _) (by omega)
    rw [HR.out] at this
    omega
  rw [← hR]
  have hKb : K.size ≤ 65604 := by omega
  have hK68 : 68 ≤ K.size := by omega
  have hsz : 68 + s.size ≤ 9223372036854775807 := by omega
  have hKe : (⟨#[116, 114, 97, 110, 115, 102, 101, 114, 32, 112, 97, 121, 32, 116, 111, 32, 102, 114, 111, 109, 32, 108, 97, 110, 101, 32, 98, 105, 100, 32, 102, 101, 101, 32, 110, 111, 110, 99, 101, 32, 114, 111, 117, 110, 100, 32, 98, 97, 116, 99, 104, 32, 100, 101, 108, 97, 121, 101, 100, 32, 48, 49, 50, 51, 52, 53, 54, 55]⟩ : ByteArray) ++ s = K := hK.symm
  obtain ⟨W0, hW0, hn0, hr0, hb0⟩ := note_start w K (bstr statL)
  have HN0 := Lib.hid hn0
  have HI0 := Lib.hid hr0
  have HB0 := Lib.hid hb0
  have HW0 := Lib.hid hW0
  have hmm := @run_makeMap Tryd.prog
  have HNX : Hid (∀ (W : World) (r pos : Nat), W.heap[r]? = some (.stringIter (bstr statL) pos) → pos < 68 → ∃ c, ∀ ty, (Instr.next (.pointer (some ⟨r, 0, none⟩)) true ty).run Tryd.prog W = .ok (.tuple #[.bool true, .int .i64 pos, .int .i32 c]) (setIter W r (bstr statL) (pos + 1))) := show ∀ W, _ from fun W r pos hb h => ⟨_, fun ty => run_next_at hb h (stat_ascii pos h) ty⟩
  have HNY : Hid (∀ (W : World) (r : Nat) (ty : TypeId), W.heap[r]? = some (.stringIter (bstr statL) 68) → (Instr.next (.pointer (some ⟨r, 0, none⟩)) true ty).run Tryd.prog W = .ok (.tuple #[.bool false]) W) := show ∀ W, _ from fun W r ty hb => run_next_over hb (by show ¬ 68 < 68; omega) ty
  clear hKs hR hK hW0 hn0 hr0 hb0
  go_enter Tryd.func84, Tryd.ntmps84
  go_upto_region 2 with fail
  clear hKe
  go_wp2_with fail
  have HWE : Hid (∀ Q : World → Prop, Q W0 → Q ((((w.alloc (.cells #[.string K] 9)).alloc (.map #[] 0)).alloc (.cells #[.map (some (w.heap.size + 1))] 114)).iter (bstr statL) 0)) := show ∀ Q : World → Prop, _ from fun Q h => by rw [← HW0.out]; exact h
  refine HWE.out _ ?_
  clear HWE HW0
  have hlt3 : w.heap.size + 1 + 1 + 1 < W0.heap.size := block_lt HI0.out
  generalize hr : w.heap.size + 1 + 1 + 1 = r at *
  generalize hbs : w.heap.size + 1 + 1 = bs at *
  generalize hbm : w.heap.size + 1 = bm at *
  have hm1 : w.heap.size < bm := by omega
  have hm2 : bm < bs := by omega
  have hm3 : bs < r := by omega
  clear hr hbs hbm
  go_loopg [6] 68 (fun gk i wr => ∃ pos : Nat, pos + gk = 68 ∧ Hid (NoteAt wr w.heap.size bs bm bs K pos (fun j => j = w.heap.size ∨ j = bs ∨ j = r)) ∧ Hid (wr.heap[r]? = some (.stringIter (bstr statL) pos)) ∧ Hid (Below w.heap.size w wr))
  case atStart => exact ⟨0, by omega, HN0, HI0, HB0⟩
  case round =>
    obtain ⟨pos, hpg, HN, HI, HB⟩ := hrel
    by_cases hlt : pos < 68
    · obtain ⟨c, hc⟩ := HNX.out wr r pos HI.out hlt
      obtain ⟨W1, hW1⟩ : ∃ W1, W1 = setIter wr r (bstr statL) (pos + 1) := ⟨_, rfl⟩
      rw [← hW1] at hc
      have hrl := block_lt HI.out
      have hg1 : wr.grownBy W1 (some r) := by rw [hW1]; exact setIter_grown _ _ _ _
      have hn1 := HN.out.kept hg1 fun j hj => by
        cases hj
        refine ⟨.inr (.inr rfl), by omega, by omega, by omega⟩
      have HI1 : Hid (W1.heap[r]? = some (.stringIter (bstr statL) (pos + 1))) := show _ = _ from by rw [hW1]; exact setIter_here hrl
      have HB1 : Hid (Below w.heap.size w W1) := HB.out.trans ⟨hg1.os, hg1.tape, hg1.output, hg1.size, fun k hk => hg1.block k (Nat.lt_of_lt_of_le hk HB.out.size) (fun e => by injection e with e; omega)⟩
      have HC := note_any w.heap.size bs bm bs K pos _ W1 hn1 (by omega) (by omega) (.inl rfl) (.inr (.inl rfl))
      have HCC := Lib.hid HC
      clear HC hn1 hg1 hW1 hrl
      go_wp2_with fail
      refine (HCC.out).mono ?_
      rintro e W2 ⟨rfl, hn2, hT2⟩
      have HN2 := Lib.hid hn2
      have HI2 : Hid (W2.heap[r]? = some (.stringIter (bstr statL) (pos + 1))) := show _ = _ from (hT2.block r (block_lt HI1.out) (by omega) (.inl (.inr (.inr rfl)))).trans HI1.out
      have HB2 : Hid (Below w.heap.size w W2) := HB1.out.trans ⟨hT2.os, hT2.tape, hT2.output, hT2.size, fun k hk => hT2.block k (Nat.lt_of_lt_of_le hk HB1.out.size) (by omega) (.inr (by omega))⟩
      clear hn2 hT2 hc
      go_wp2_with fail
      go_roundg (gk - 1)
      case measure => omega
      case rel => exact ⟨pos + 1, by omega, HN2, HI2, HB2⟩
    · obtain rfl : pos = 68 := by omega
      have hc := fun ty => HNY.out wr r ty HI.out
      obtain ⟨W5, hW5⟩ : ∃ W5, W5 = (wr.alloc (.cells #[.slice none 0 0] 48)).alloc (.cells #[.int .i64 (68 : Nat)] 3) := ⟨_, rfl⟩
      have HP0 := Lib.hid (WP.start HN.out HB.out rfl ⟨Nat.le_refl _, by omega, by omega, by omega⟩ (.inl rfl) (.inr (.inl rfl)) 68 hW5)
      have HWE : Hid (∀ Q : World → Prop, Q W5 → Q ((wr.alloc (.cells #[.slice none 0 0] 48)).alloc (.cells #[.int .i64 (68 : Nat)] 3))) := show ∀ Q : World → Prop, _ from fun Q h => by rw [← hW5]; exact h
      clear HNX HNY hW5 HN HB HN0 HI0 HB0 hmm hpg hlt hm3
      go_wp2_with fail
      refine HWE.out _ ?_
      clear HWE hc HI
      generalize wr.heap.size + 1 = bf at *
      generalize wr.heap.size = bo at *
      go_loopw [10] (fun at_ wr => ∃ (a f : Nat) (v : Value) (O : List UInt8), 68 ≤ f ∧ f ≤ a ∧ a ≤ K.size ∧ a - f < 128 ∧ at_ = .int .i64 a ∧ Hid (O ++ wpF K a f = R) ∧ Hid (WP w.heap.size w wr w.heap.size bs bm bs bf bo K a f v O)) (fun at_ _ => K.size - (intOf at_).toNat)
      case atStart => exact ⟨68, 68, _, [], by omega, by omega, by omega, by omega, rfl, HR, HP0⟩
      case round =>
        obtain ⟨a, f, v, O, h68, hfa, hak, h128, rfl, HEQ, HP⟩ := hrel
        have hOl : O.length ≤ 131072 := by
          have h1 := congrArg List.length HEQ.out
          rw [List.length_append] at h1
          omega
        have ck := cell_of_one HP.out.note.k
        by_cases hlt : a < K.size
        · have d0 : decide ((a : Int) < K.size) = true := decide_eq_true (by omega)
          have cs := cell_of_one HP.out.note.s
          obtain ⟨a4, ha4⟩ : ∃ x, x = a + 4 := ⟨_, rfl⟩
          have e1 : IntKind.i64.wrap ((a : Int) + 4) = (a4 : Int) := by rw [IntWalk.i64_in _ (by omega)]; omega
          obtain ⟨r2, hr2⟩ : ∃ r2, r2 = if a4 ≤ K.size then lng K a (occ K.data.toList a ((K.data.toList.drop a).take 4)) (occ K.data.toList a ((K.data.toList.drop a).take 4)).length 0 0 else (0, 0) := ⟨_, rfl⟩
          have HALI : Hid (Ali (bst K a) r2) := show Ali _ _ from by
            by_cases h4 : a4 ≤ K.size
            · rw [hr2, if_pos h4]
              exact lng_is (by omega) _ rfl
            · rw [hr2, if_neg h4]
              have := bstD_le hak (min a 32768)
              exact .inl ⟨by show (bstD K a (min a 32768)).1 < 4; omega, rfl⟩
          have HA4 := Lib.hid ha4
          have HR2 := Lib.hid hr2
          clear ha4 hr2
          go_upto_if 34 with fail
          go_cut [11, 12] (fun n b wx => n = .int .i64 (r2.1 : Nat) ∧ b = .int .i64 (r2.2 : Nat) ∧ ∃ m, wx = wr.drewN m)
          case first =>
            by_cases h4 : a4 ≤ K.size
            · have ha4 := HA4.out
              have hr2 := HR2.out
              have d1 : decide ((a4 : Int) ≤ K.size) = true := decide_eq_true (by omega)
              have d1' : decide (a4 ≤ K.size) = true := decide_eq_true h4
              obtain ⟨q, zs, c, hzs, hlk, hcl⟩ := HP.out.note.look (a := a) (by omega) (by omega) (by omega)
              have hzl : zs.length ≤ a := by rw [hzs]; exact occ_length _ _ _
              have HLONG : Hid (∀ m9, Calls Tryd.prog 94 #[.string K, .int .i64 a, .slice q zs.length c] (wr.drewN m9) fun e w' => e = .returned (.tuple #[.int .i64 (r2.1 : Nat), .int .i64 (r2.2 : Nat)]) ∧ ∃ m, w' = wr.drewN m) := show ∀ m9, _ from fun m9 => by
                refine (longest_any K a q c zs (wr.drewN m9) (by omega) hak (by omega) (fun j hj => ?_) (fun j hj => hcl j hj)).mono ?_
                · have : zs.getD j 0 ∈ zs := by
                    rw [List.getD_eq_getElem?_getD, List.getElem?_eq_getElem hj]
                    exact List.getElem_mem hj
                  rw [hzs] at this ⊢
                  exact occ_lt _ _ _ _ this
                · rintro e w' ⟨rfl, m, rfl⟩
                  refine ⟨by rw [hr2, if_pos h4, hzs], m9 + m, by rw [World.drewN_drewN]⟩
              rw [← ha4] at hlk
              have HLK := Lib.hid hlk
              have f0 : (0 : Int) ≤ a := by omega
              have f1 : (a : Int) ≤ a4 := by omega
              have f2 : (a4 : Int) ≤ K.size := by omega
              have f3 : a ≤ a4 := by omega
              clear hr2 ha4 hzs hlk hcl
              go_wp2_with fail
              refine wp_region_classW (fun W => ∃ m, W = wr.drewN m) (by kernel_rfl) (by kernel_rfl) ⟨1, by rfl⟩ ?_
              iterate 8
                refine WQ.gen (v := ?_) (by kernel_rfl) ?_ ?_
                rotate_left
                · rintro W ⟨m9, rfl⟩
                  go_simp
                  try with_reducible rfl
                refine WQ.eq (a' := ?_) ?_ ?_
                rotate_left
                · try simp only [Act.put, List.setIfInBounds_toArray, List.set_cons_zero, List.set_cons_succ]
                  exact rfl
              refine WQ.gen (v := .slice q zs.length c) (by kernel_rfl) ?_ ?_
              · rintro W ⟨m9, rfl⟩
                exact exec_look 114 (.tmp 38) (.tmp 43) rfl (by rfl) (by rfl) (HLK.out m9)
              refine WQ.eq (a' := ?_) ?_ ?_
              rotate_left
              · try simp only [Act.put, List.setIfInBounds_toArray, List.set_cons_zero, List.set_cons_succ]
                exact rfl
              refine WQ.call (f := 94) (args := #[.string K, .int .i64 a, .slice q zs.length c]) (v := .tuple #[.int .i64 (r2.1 : Nat), .int .i64 (r2.2 : Nat)]) (by kernel_rfl) (fun W hC => ?_) (fun W hC => ?_) ?_
              · obtain ⟨m9, rfl⟩ := hC
                go_simp
                try with_reducible rfl
              · obtain ⟨m9, rfl⟩ := hC
                exact HLONG.out m9
              refine WQ.eq (a' := ?_) ?_ ?_
              rotate_left
              · try simp only [Act.put, List.setIfInBounds_toArray, List.set_cons_zero, List.set_cons_succ]
                exact rfl
              iterate 5
                refine WQ.gen (v := ?_) (by kernel_rfl) ?_ ?_
                rotate_left
                · rintro W ⟨m9, rfl⟩
                  go_simp
                  try with_reducible rfl
                refine WQ.eq (a' := ?_) ?_ ?_
                rotate_left
                · try simp only [Act.put, List.setIfInBounds_toArray, List.set_cons_zero, List.set_cons_succ]
                  exact rfl
              refine WQ.nil ?_
              rintro w2 ⟨m3, rfl⟩
              go_wp2_with fail
              go_meet
              case rel => exact ⟨rfl, rfl, m3, rfl⟩
            · have d1 : decide ((a4 : Int) ≤ K.size) = false := decide_eq_false (by omega)
              have d1' : decide (a4 ≤ K.size) = false := decide_eq_false h4
              obtain rfl : r2 = (0, 0) := by rw [HR2.out, if_neg h4]
              go_wp2_with fail
              go_meet
              case rel => exact ⟨rfl, rfl, 0, rfl⟩
          case rest =>
            obtain ⟨rfl, rfl, m3, rfl⟩ := hcut
            have HP1 := Lib.hid (HP.out.drewN m3)
            clear HP ck cs HA4 HR2 e1
            generalize wr.drewN m3 = w1 at *
            obtain ⟨n, bk⟩ := r2
            simp only at HALI ⊢
            obtain ⟨a1, ha1⟩ : ∃ x, x = a + 1 := ⟨_, rfl⟩
            have e2 : IntKind.i64.wrap ((a : Int) + 1) = (a1 : Int) := by rw [IntWalk.i64_in _ (by omega)]; omega
            by_cases hn4 : n < 4
            · have d2 : decide ((n : Int) < 4) = true := decide_eq_true (by omega)
              have d2' : decide (n < 4) = true := decide_eq_true hn4
              have HB4 : Hid ((bst K a).1 < 4) := show _ < _ from by
                rcases HALI.out with h | h
                · exact h.1
                · rw [← h.2]; exact hn4
              have HC := Lib.hid (note_any w.heap.size bs bm bs K a _ w1 HP1.out.note (by omega) hak (.inl rfl) (.inr (.inl rfl)))
              have HA1 := Lib.hid ha1
              have ha2 : a1 ≤ K.size := by omega
              have ha3 : a < a1 := by omega
              have ha4 : a1 ≤ a + 1 := by omega
              clear ha1
              go_wp2_with fail
              refine HC.out.mono ?_
              rintro e w2 ⟨rfl, hn2, hT2⟩
              have HP2 : Hid (WP w.heap.size w w2 w.heap.size bs bm bs bf bo K a1 f v O) := show WP _ _ _ _ _ _ _ _ _ _ _ _ _ _ from by rw [HA1.out]; exact HP1.out.noted hn2 hT2
              have cf := cell_of_one HP2.out.st.f
              obtain ⟨d, hd⟩ : ∃ d, d = a1 - f := ⟨_, rfl⟩
              have e3 : IntKind.i64.wrap ((a1 : Int) - f) = (d : Int) := by rw [IntWalk.i64_in _ (by omega)]; omega
              clear hn2 hT2
              by_cases h8 : d = 128
              · have d3 : ((d : Int) == 128) = true := by rw [beq_iff_eq]; omega
                have HSP : Hid (wpF K a f = litW K f a1 ++ wpF K a1 a1) := show _ = _ from by rw [HA1.out]; exact wpF_cut hlt HB4.out (by have := HA1.out; omega)
                have HS := Lib.hid (stretch2_any w.heap.size bf bo w.heap.size K f a1 v O w2 HP2.out.st (by omega) ha2 (by omega) (by omega) (by omega))
                clear hd h8
                go_wp2_with fail
                refine HS.out.mono ?_
                rintro e w3 ⟨rfl, v3, hs3, hT3⟩
                have HP3 := Lib.hid (HP2.out.laid hs3 hT3 fun j hj => hs3.rowlt hj)
                have HP4 := Lib.hid (HP3.out.from a1)
                have cf3 := cell_of_one HP3.out.st.f
                have cz3 : w3.frozen? ⟨bf, 0, none⟩ = false := frozen_of_row w3 bf 0 _ _ HP3.out.st.f
                clear hs3 hT3 cf
                go_wp2_with fail
                go_roundw
                case rel => exact ⟨a1, a1, v3, _, by omega, by omega, by omega, by omega, by go_num, show _ = _ from by rw [← HEQ.out, HSP.out, List.append_assoc], HP4⟩
                case measure => simp [intOf]; omega
              · have d3 : ((d : Int) == 128) = false := by rw [beq_eq_false_iff_ne]; omega
                have HSP : Hid (wpF K a f = wpF K a1 f) := show _ = _ from by rw [HA1.out]; exact wpF_lit hlt HB4.out (by have := HA1.out; omega)
                have hd1 : a1 - f < 128 := by omega
                clear hd h8
                go_wp2_with fail
                go_roundw
                case rel => exact ⟨a1, f, v, O, by omega, by omega, by omega, by omega, by go_num, show _ = _ from by rw [← HEQ.out, HSP.out], HP2⟩
                case measure => simp [intOf]; omega
            · have d2 : decide ((n : Int) < 4) = false := decide_eq_false (by omega)
              have d2' : decide (n < 4) = false := decide_eq_false hn4
              have HNB : Hid (bst K a = (n, bk)) := show _ = _ from by
                rcases HALI.out with h | h
                · have := (Prod.mk.inj h.2).1; omega
                · exact h.2.symm
              have hbd := bstD_le hak (min a 32768)
              have hbd2 : bstD K a (min a 32768) = (n, bk) := HNB.out
              rw [hbd2] at hbd
              simp only at hbd
              have HSP : Hid (wpF K a f = litW K f a ++ (mtW n bk ++ wpF K (a + n) (a + n))) := show _ = _ from wpF_match hlt HNB.out (by omega)
              obtain ⟨M, hM⟩ : ∃ M, M = n + 124 := ⟨_, rfl⟩
              obtain ⟨D, hD⟩ : ∃ D, bk = D + 1 := ⟨bk - 1, by have := hbd.2.2.2 (by omega); omega⟩
              have g1 : IntKind.i64.wrap ((n : Int) + 124) = (M : Int) := by rw [IntWalk.i64_in _ (by omega)]; omega
              have g2 : IntKind.u8.wrap (M : Int) = M := IntWalk.u8_in _ (by omega)
              have g3 : IntKind.i64.wrap ((bk : Int) - 1) = (D : Int) := by rw [IntWalk.i64_in _ (by omega)]; omega
              have HMW : Hid (mtW n bk = [UInt8.ofNat M, UInt8.ofNat (D / 256), UInt8.ofNat (D % 256)]) := show _ = _ from by rw [hM, hD]; rfl
              have hM2 : M < 256 := by omega
              have hD2 : D < 32768 := by omega
              have hn1 : 4 ≤ n := by omega
              have hn2 : a + n ≤ K.size := by omega
              have hn3 : n ≤ 130 := by omega
              have HS := Lib.hid (stretch2_any w.heap.size bf bo w.heap.size K f a v O w1 HP1.out.st hfa hak (by omega) (by omega) (by omega))
              have HM1 : Hid ((M : Int) = ((UInt8.ofNat M).toNat : Int)) := show _ = _ from by rw [UInt8.toNat_ofNat_of_lt' (show M < 256 by omega)]
              have HM3 : Hid ((D : Int) / 256 = ((UInt8.ofNat (D / 256)).toNat : Int)) := show _ = _ from by rw [UInt8.toNat_ofNat_of_lt' (show D / 256 < 256 by omega)]; omega
              have HM4 : Hid ((D : Int) % 256 = ((UInt8.ofNat (D % 256)).toNat : Int)) := show _ = _ from by rw [UInt8.toNat_ofNat_of_lt' (show D % 256 < 256 by omega)]; omega
              have hll : (O ++ litW K f a).length ≤ 262144 := by
                have := litW_length K f a
                rw [List.length_append]; omega
              have HLL := Lib.hid hll
              clear ha1 hM hD hbd hbd2 hll e2
              go_wp2_with fail
              refine HS.out.mono ?_
              rintro e w3 ⟨rfl, v3, hs3, hT3⟩
              have HP3 := Lib.hid (HP1.out.laid hs3 hT3 fun j hj => hs3.rowlt hj)
              have co3 := cell_of_one HP3.out.st.o
              have HPA := Lib.hid (HP3.out.alloc (.cells #[.int .u8 (M : Int), .int .u8 ((D : Int) / 256), .int .u8 ((D : Int) % 256)] 5))
              clear hs3 hT3
              go_wp2_with ((at_builtin; refine wpList_appZ2 rfl (.tmp 66) (.tmp 77) 48 rfl w.heap.size v3 (O ++ litW K f a) rfl HPA.out.st.own _ rfl [UInt8.ofNat M, UInt8.ofNat (D / 256), UInt8.ofNat (D % 256)] (byte_src3 HM1.out HM3.out HM4.out (heap_alloc_new w3 _)) (Nat.succ_pos _) (by have := HLL.out; simp only [List.length_cons, List.length_nil]; omega) ?_); intro v6 w6 HO6 HB6 HK6 HN6; obtain ⟨q6, n6, c6, rfl⟩ := OwnZ.sh (.inr HO6.out); have HP6 := Lib.hid (HPA.out.out HO6.out HB6.out HK6.out HN6.out); have ho6 := (HK6.out bo (block_lt HPA.out.st.o) (fun e => HPA.out.st.own.row_ne e HPA.out.st.o (by decide) rfl)).trans HPA.out.st.o; have co6 : w6.cell? ⟨bo, 0, none⟩ = some v3 := cell_of_one ho6; have cz6 : w6.frozen? ⟨bo, 0, none⟩ = false := frozen_of_row w6 bo 0 _ _ ho6; clear ho6 co3)
              go_loopg [10, 80] n (fun gk at_ i wr => ∃ i0 t : Nat, i0 + gk = n ∧ t ≤ a + i0 ∧ a + i0 ≤ t ∧ i = .int .i64 i0 ∧ at_ = .int .i64 t ∧ Hid (WP w.heap.size w wr w.heap.size bs bm bs bf bo K t f (.slice q6 n6 c6) (O ++ litW K f a ++ [UInt8.ofNat M, UInt8.ofNat (D / 256), UInt8.ofNat (D % 256)])))
              case atStart => exact ⟨0, a, by omega, by omega, by omega, rfl, rfl, HP6⟩
              case round =>
                obtain ⟨i0, t, hi, ht1, ht2, rfl, rfl, HPt⟩ := hrel
                by_cases hin : i0 < n
                · have dd : decide ((i0 : Int) < n) = true := decide_eq_true (by omega)
                  have HC := Lib.hid (note_any w.heap.size bs bm bs K t _ wr HPt.out.note (by omega) (by omega) (.inl rfl) (.inr (.inl rfl)))
                  go_wp2_with fail
                  refine HC.out.mono ?_
                  rintro e w8 ⟨rfl, hn8, hT8⟩
                  have HP8 := Lib.hid (HPt.out.noted hn8 hT8)
                  clear hn8 hT8
                  go_wp2_with fail
                  go_roundg (gk - 1)
                  case measure => omega
                  case rel => exact ⟨i0 + 1, t + 1, by omega, by omega, by omega, by go_num, by go_num, HP8⟩
                · obtain rfl : i0 = n := by omega
                  have dd : decide ((i0 : Int) < i0) = false := decide_eq_false (by omega)
                  have cf8 := cell_of_one HPt.out.st.f
                  have cz8 : wr.frozen? ⟨bf, 0, none⟩ = false := frozen_of_row wr bf 0 _ _ HPt.out.st.f
                  have HP9 := Lib.hid (HPt.out.from t)
                  have HTT : Hid (t = a + i0) := show _ = _ from by omega
                  go_wp2_with fail
                  go_roundw
                  case rel => exact ⟨t, t, _, _, by omega, by omega, by omega, by omega, rfl, show _ = _ from by rw [← HEQ.out, HSP.out, HMW.out, HTT.out]; simp [List.append_assoc], HP9⟩
                  case measure => simp [intOf]; omega
        · obtain rfl : a = K.size := by omega
          have d0 : decide ((K.size : Int) < K.size) = false := decide_eq_false (by omega)
          have HS := Lib.hid (stretch2_any w.heap.size bf bo w.heap.size K f K.size v O wr HP.out.st hfa hak (by omega) (by omega) (by omega))
          go_wp2_with fail
          refine HS.out.mono ?_
          rintro e w3 ⟨rfl, v3, hs3, hT3⟩
          have HP3 := Lib.hid (HP.out.laid hs3 hT3 fun j hj => hs3.rowlt hj)
          have co3 := cell_of_one hs3.o
          have hcv : (convert 48 9 v3).run Tryd.prog w3 = .ok (.string (bstr R)) w3 := by
            have h1 := hs3.own.conv
            have h2 := HEQ.out
            rw [wpF_end (Nat.le_refl _)] at h2
            rw [h2] at h1
            exact h1
          clear hs3 hT3
          go_wp2_with fail
          go_ret
          exact ⟨rfl, HP3.out.below⟩
end Go.Proofs.YtbeooeihedhabaaDoor
