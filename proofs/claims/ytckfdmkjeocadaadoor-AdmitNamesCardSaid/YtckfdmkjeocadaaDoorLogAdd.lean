/- append: where the row lies behind it; append of nothing; a region that draws, walked once for a class of worlds. order's put: what the call does. What a log's receipts are, call by call: no walk. order's Add, Load: what the calls do. -/
import Derived.WalkKit
import Derived.Deep.Quiet
import Derived.Deep.Draws
import Derived.Deep.MidRow
import Derived.Test.YtckfdmkjeocadaaDoorLogMake
import Derived.Great.BuildSlice
namespace Go.Proofs.YtckfdmkjeocadaaDoor
open Go.RowKit
/-- where a row lies that has grown -/
def OwnNew (w : World) (v v' : Value) : Prop := ∀ k, v'.ownBlock = some k → v.ownBlock = some k ∨ w.heap.size ≤ k
section
variable {P : Program} {w : World}
theorem run_append_own2 (base : Nat) (t ty e : TypeId) (i : TypeInfo) (z : Value) (size bytes : Nat) (ht : P.underlying t = some (.slice e)) (hi : P.info? e = some i) (hz : i.zero = some z)
    (hsize : i.size = size) (hby : i.bytes = bytes) (hzs : z.cells.size = size) (hsz : 0 < size)
    (v : Value) (n : Nat) (xs : List Value) (hown : w.ownsRow base e size v n xs)
    (a : Addr) (m c : Nat) (news : List Value) (hl : news.length = m * size) (hnews : ∀ j u, news[j]? = some u → w.cell? (a.add j) = some u) (h1 : ∀ u ∈ news, u.oneCell' = true)
    (h63 : n + m ≤ maxLen) (hbytes : (n + m) * bytes ≤ 140737488355328) (hbase : base ≤ w.heap.size) :
    ∃ v' w', (Builtin.append_ #[t, t] ty #[v, .slice (some a) m c]).run P w = .ok v' w' ∧ w'.ownsRow base e size v' (n + m) (xs ++ news) ∧ w.grownBy w' v.ownBlock ∧ OwnNew w v v' := by
  obtain ⟨v', w', hr, h2, h3, h4⟩ := run_append_own (P := P) w base t ty e i z size bytes ht hi hz hsize hby hzs hsz v n xs hown a m c news hl hnews h1 h63 hbytes hbase
  refine ⟨v', w', hr, h2, h3, ?_⟩
  rcases hown.2 with ⟨rfl, rfl⟩ | ⟨g, cap, cur, rfl, hbg, hg, hnc, hcm, hcs, htake⟩
  · by_cases hm : m = 0
    · rw [h4.2 ⟨rfl, hm⟩]
      intro k hk
      simp [Value.ownBlock] at hk
    · have hr2 := run_append_nil (P := P) w t ty e i z ht hi hz a m c news (by rw [hsize]; exact hl) hnews (by omega) (by simp only [maxLen] at h63; omega) (by rw [hby]; simp only [Nat.zero_add] at hbytes; omega)
      rw [hr] at hr2
      obtain ⟨rfl, -⟩ := Result.ok.inj hr2
      intro k hk
      simp [Value.ownBlock] at hk
      omega
  · by_cases hroom : n + m ≤ cap
    · have hr2 := run_append_room (P := P) w t ty e i ht hi g n cap cur hg a m c news (by rw [hsize]; exact hl) hnews h1 hroom (by rw [hl, hcs, hsize, ← Nat.add_mul]; exact Nat.mul_le_mul_right _ hroom)
      rw [hr] at hr2
      obtain ⟨rfl, -⟩ := Result.ok.inj hr2
      intro k hk
      exact .inl hk
    · have holds : ∀ j u, xs[j]? = some u → w.cell? ((⟨g, 0, none⟩ : Addr).add j) = some u := hown.cells (g := g) rfl
      have hr2 := run_append_grow (P := P) w t ty e i z ht hi hz ⟨g, 0, none⟩ n cap xs (by rw [hsize]; exact hown.1) holds a m c news (by rw [hsize]; exact hl) hnews (by omega) (by simp only [maxLen] at h63; omega) (by rw [hby]; exact growslice_fits (by omega) hbytes)
      rw [hr] at hr2
      obtain ⟨rfl, -⟩ := Result.ok.inj hr2
      intro k hk
      simp [Value.ownBlock] at hk
      omega
theorem wp_append_own2 {o : Oper} {a : Act} {K : Act → World → Prop} {Q : Exit → Act → World → Prop} (s x : Operand) (t : TypeId)
    (ho : o.op = .call { callee := .builtin .append, args := #[s, x], argTypes := #[t, t] })
    (base : Nat) (e : TypeId) (i : TypeInfo) (z : Value) (size bytes : Nat) (ht : P.underlying t = some (.slice e)) (hi : P.info? e = some i) (hz : i.zero = some z)
    (hsize : i.size = size) (hby : i.bytes = bytes) (hzs : z.cells.size = size) (hsz : 0 < size)
    (v : Value) (n : Nat) (xs : List Value) (hs : a.eval s = v) (hown : w.ownsRow base e size v n xs)
    (ad : Addr) (m c : Nat) (news : List Value) (hx : a.eval x = .slice (some ad) m c) (hl : news.length = m * size) (hnews : ∀ j u, news[j]? = some u → w.cell? (ad.add j) = some u) (h1 : ∀ u ∈ news, u.oneCell' = true)
    (h63 : n + m ≤ maxLen) (hbytes : (n + m) * bytes ≤ 140737488355328) (hbase : base ≤ w.heap.size)
    (h : ∀ v' w', w'.ownsRow base e size v' (n + m) (xs ++ news) → w.grownBy w' v.ownBlock → OwnNew w v v' → K (a.put o.dst v') w') : o.wp P a w K Q := by
  obtain ⟨v', w', hr, h2, h3, h4⟩ := run_append_own2 (P := P) (w := w) base t o.type e i z size bytes ht hi hz hsize hby hzs hsz v n xs hown ad m c news hl hnews h1 h63 hbytes hbase
  unfold Oper.wp execOp
  simp only [ho, resolve, invoke, builtin, Sem.run_bind, Sem.run_pure, Result.andThen_ok, List.map_toArray, List.map_cons, List.map_nil, hs, hx, hr]
  exact h v' w' h2 h3 h4
theorem run_append_none (t ty e : TypeId) (i : TypeInfo) (ht : P.underlying t = some (.slice e)) (hi : P.info? e = some i) (g n c : Nat) (hn : n ≤ c) :
    (Builtin.append_ #[t, t] ty #[.slice (some ⟨g, 0, none⟩) n c, .slice none 0 0]).run P w = .ok (.slice (some ⟨g, 0, none⟩) n c) w := by
  simp [Builtin.append_, run_underlying ht, sizeOf, typeInfo, hi, Builtin.lenOf, hn, Builtin.firstCells, loadCells, storeCells]
theorem wpList_append_own2 {ops : Array Oper} {rest : List Oper} {o : Oper} {a : Act} {Q : Exit → Act → World → Prop} (hgd : o.guard = none) (s x : Operand) (t : TypeId)
    (ho : o.op = .call { callee := .builtin .append, args := #[s, x], argTypes := #[t, t] })
    (base : Nat) (e : TypeId) (i : TypeInfo) (z : Value) (size bytes : Nat) (ht : P.underlying t = some (.slice e)) (hi : P.info? e = some i) (hz : i.zero = some z)
    (hsize : i.size = size) (hby : i.bytes = bytes) (hzs : z.cells.size = size) (hsz : 0 < size)
    (v : Value) (n : Nat) (xs : List Value) (hs : a.eval s = v) (hown : w.ownsRow base e size v n xs)
    (ad : Addr) (m c : Nat) (news : List Value) (hx : a.eval x = .slice (some ad) m c) (hl : news.length = m * size) (hnews : ∀ j u, news[j]? = some u → w.cell? (ad.add j) = some u) (h1 : ∀ u ∈ news, u.oneCell' = true)
    (h63 : n + m ≤ maxLen) (hbytes : (n + m) * bytes ≤ 140737488355328) (hbase : base ≤ w.heap.size)
    (h : ∀ v' w', w'.ownsRow base e size v' (n + m) (xs ++ news) → w.grownBy w' v.ownBlock → OwnNew w v v' → wpList P ops Q rest (a.put o.dst v') w') : wpList P ops Q (o :: rest) a w :=
  wpList_plain hgd fun _ hK => wp_append_own2 s x t ho base e i z size bytes ht hi hz hsize hby hzs hsz v n xs hs hown ad m c news hx hl hnews h1 h63 hbytes hbase fun v' w' h2 h3 h4 => hK _ _ (h v' w' h2 h3 h4)
theorem wpList_append_none {ops : Array Oper} {rest : List Oper} {o : Oper} {a : Act} {Q : Exit → Act → World → Prop} (hgd : o.guard = none) (s x : Operand) (t : TypeId)
    (ho : o.op = .call { callee := .builtin .append, args := #[s, x], argTypes := #[t, t] }) (e : TypeId) (i : TypeInfo) (ht : P.underlying t = some (.slice e)) (hi : P.info? e = some i) (g n c : Nat) (hn : n ≤ c)
    (hs : a.eval s = .slice (some ⟨g, 0, none⟩) n c) (hx : a.eval x = .slice none 0 0)
    (h : wpList P ops Q rest (a.put o.dst (.slice (some ⟨g, 0, none⟩) n c)) w) : wpList P ops Q (o :: rest) a w :=
  wpList_plain hgd fun _ hK => by
    have hr := run_append_none (P := P) (w := w) t o.type e i ht hi g n c hn
    unfold Oper.wp execOp
    simp only [ho, resolve, invoke, builtin, Sem.run_bind, Sem.run_pure, Result.andThen_ok, List.map_toArray, List.map_cons, List.map_nil, hs, hx, hr]
    exact hK _ _ h
variable {ops : Array Oper} {C : World → Prop} {Q : Act → Prop} {a : Act} {o : Oper} {rest : List Oper}
/-- an operation of a region that draws, taken in every world of a class -/
theorem wq_gen {v : Value} (hw : Region.wanted o (yielded ops a.tmps) = true) (hr : ∀ w, C w → (execOp a.eval o).run P w = .ok (.value v) w) (h : wpQuiet P ops C Q rest (a.put o.dst v)) : wpQuiet P ops C Q (o :: rest) a :=
  wpQuiet_step fun K hK => by
    rw [if_pos hw]
    exact ⟨v, fun w hC => by unfold Oper.quietAt; rw [hr w hC]; exact ⟨rfl, rfl⟩, hK _ h⟩
theorem wq_move (hw : Region.wanted o (yielded ops a.tmps) = true) (x : Operand) (ho : o.op = .move x) (h : wpQuiet P ops C Q rest (a.put o.dst (a.eval x))) : wpQuiet P ops C Q (o :: rest) a :=
  wq_gen hw (fun w _ => by unfold execOp; simp only [ho, Sem.run_pure]) h
/-- .. a call -/
theorem wq_call {v : Value} {f : FuncId} {args : Array Value} (hw : Region.wanted o (yielded ops a.tmps) = true) (hr : ∀ w, C w → (execOp a.eval o).run P w = .ok (.enter f args) w)
    (hc : ∀ w, C w → Calls P f args w fun e w' => e = .returned v ∧ C w') (h : wpQuiet P ops C Q rest (a.put o.dst v)) : wpQuiet P ops C Q (o :: rest) a :=
  wpQuiet_step fun K hK => by
    rw [if_pos hw]
    exact ⟨v, fun w hC => by unfold Oper.quietAt; rw [hr w hC]; exact ⟨rfl, hc w hC⟩, hK _ h⟩
theorem wq_skip (hw : Region.wanted o (yielded ops a.tmps) = false) (h : wpQuiet P ops C Q rest (a.put o.dst undef)) : wpQuiet P ops C Q (o :: rest) a :=
  wpQuiet_step fun K hK => by rw [if_neg (by rw [hw]; exact Bool.false_ne_true)]; exact hK _ h
theorem wq_load (hw : Region.wanted o (yielded ops a.tmps) = true) (ty : TypeId) (x : Operand) (ho : o.op = .load ty x) (b f : Nat) (cs : List Value) (d : TypeDesc) (hx : a.eval x = .pointer (some ⟨b, f, none⟩)) (hC : ∀ w, C w → w.rangeAt b f cs)
    (hu : P.underlying ty = some d) (hd : d.isRow = true) (hi : (P.info? ty).map (·.size) = some cs.length) (h : wpQuiet P ops C Q rest (a.put o.dst (.agg cs.toArray))) : wpQuiet P ops C Q (o :: rest) a :=
  wq_gen hw (fun w hw' => by
    unfold execOp
    simp only [ho, hx, Instr.loadAt, Instr.sureAddr, Sem.run_bind, Sem.run_pure, Result.andThen_ok, run_loadVar_mid w b f ty cs d (hC w hw') hu hd hi]) h
theorem wq_bin (hw : Region.wanted o (yielded ops a.tmps) = true) (op : BinOp) (t t2 : TypeId) (x y : Operand) (ho : o.op = .binOp op t x y t2) (u v r : Value) (hx : a.eval x = u) (hy : a.eval y = v) (hg : ∀ w, (eqGuard op t x y u v).run P w = .ok () w)
    (hrun : ∀ w, (binOp op t u v).run P w = .ok r w) (h : wpQuiet P ops C Q rest (a.put o.dst r)) : wpQuiet P ops C Q (o :: rest) a :=
  wq_gen hw (fun w _ => by
    unfold execOp
    subst hx hy
    simp only [ho, Sem.run_bind, hg, hrun, Result.andThen_ok, Sem.run_pure]) h
end
/-- a region that draws, walked once for a class of worlds -/
theorem wp_region_class {P : Program} {id : Nat} {Q : Exit → Act → World → Prop} {a : Act} {w : World} {l : List Oper} (C : World → Prop) (hm : P.follows .mixedOrders = true) (hB : Region.lexB .any l.toArray = true) (hC : C w.drew)
    (h : wpQuiet P l.toArray C (fun a' => ∀ w', C w' → Q .normal a' w') l a) : (Code.region id l.toArray true).wp P Q a w :=
  wp_region_quiet (C := C) hm hB hC (by simpa using h)
open Go.RowKit
set_option maxHeartbeats 2000000
set_option maxRecDepth 4000
/-- what a call that changes a log may change -/
structure LgTurn (W W' : World) (l : Nat) (sv : Value) : Prop where
  os : W'.os = W.os
  tape : W'.tape = W.tape
  output : W'.output = W.output
  size : W.heap.size ≤ W'.heap.size
  block : ∀ k, k < W.heap.size → k ≠ l → some k ≠ sv.ownBlock → W'.heap[k]? = W.heap[k]?
theorem LgTurn.of {W W' : World} (l : Nat) (sv : Value) (h : Below W.heap.size W W') : LgTurn W W' l sv := ⟨h.os, h.tape, h.output, h.size, fun k hk _ _ => h.block k hk⟩
theorem LgTurn.next {W W' W'' : World} {l : Nat} {sv : Value} (h : LgTurn W W' l sv) (hb : Below W'.heap.size W' W'') : LgTurn W W'' l sv :=
  ⟨hb.os.trans h.os, hb.tape.trans h.tape, hb.output.trans h.output, Nat.le_trans h.size hb.size, fun k hk h1 h2 => (hb.block k (Nat.lt_of_lt_of_le hk h.size)).trans (h.block k hk h1 h2)⟩
theorem LgTurn.after {W0 W W' : World} {l : Nat} {sv : Value} (hb : Below W0.heap.size W0 W) (h : LgTurn W W' l sv) : LgTurn W0 W' l sv :=
  ⟨h.os.trans hb.os, h.tape.trans hb.tape, h.output.trans hb.output, Nat.le_trans hb.size h.size, fun k hk h1 h2 => (h.block k (Nat.lt_of_lt_of_le hk hb.size) h1 h2).trans (hb.block k hk)⟩
theorem LgTurn.below {W W' w0 : World} {l : Nat} {sv : Value} {B : Nat} (h : LgTurn W W' l sv) (hb : Below B w0 W) (hl : B ≤ l) (hs : ∀ k, sv.ownBlock = some k → B ≤ k) (hB : B ≤ W.heap.size) : Below B w0 W' :=
  ⟨h.os.trans hb.os, h.tape.trans hb.tape, h.output.trans hb.output, Nat.le_trans hb.size h.size, fun k hk => (h.block k (by omega) (by omega) (fun e => by have := hs _ e.symm; omega)).trans (hb.block k hk)⟩
def bump (nx : List Int) (who : Int) : List Int := if 0 ≤ who then nx.set who.toNat (nx.getD who.toNat 0 + 1) else nx
theorem rcinfo : Tryd.prog.info? 61 = some { ((Tryd.prog.info? 61).getD default) with zero := some (.agg zlRc.toArray), size := 68, bytes := 104 } := by kernel_rfl
theorem rc_fill {r : RC} (h : r.wf) : Instr.fill (fun i => some (i * 68, 68)) ((Array.range (1 * 68)).map (fun i => (Value.agg zlRc.toArray).cells[i % (Value.agg zlRc.toArray).cells.size]!)) [(0, .agg r.cells.toArray)] = some r.cells.toArray := by
  have hz : (Array.range (1 * 68)).map (fun i => (Value.agg zlRc.toArray).cells[i % (Value.agg zlRc.toArray).cells.size]!) = zlRc.toArray := by kernel_rfl
  have hl := rc_len h
  rw [hz, fill_cons (off := 0) (size := 68) rfl (by simpa [Value.cells] using hl) (by decide)]
  show some (splice zlRc 0 r.cells).toArray = _
  rw [splice_all _ _ hl]
theorem lcells_set {sv : Value} {nx : List Int} {k : Nat} (x : Int) : (lcells sv nx).set (1 + k) (.int .i64 x) = lcells sv (nx.set k x) := by
  unfold lcells
  rw [Nat.add_comm, List.set_cons_succ, ← List.map_set]
theorem LgAt.setn {W : World} {base l : Nat} {sv : Value} {rs : List RC} {nx : List Int} (h : LgAt W base l sv rs nx) {k : Nat} (_hk : k < 64) {x : Int} (hx : 0 ≤ x ∧ x ≤ rs.length) : LgAt (W.setCell ⟨l, 1 + k, none⟩ (.int .i64 x)) base l sv rs (nx.set k x) := by
  refine ⟨by rw [List.length_set]; exact h.len, ?_, ownsRow_setCell_other h.own (fun e => by have := own_blk h.own l e; have := h.lt; omega) _, h.wf, h.lt, h.small, fun y hy => ?_⟩
  · have := set_row (i := 1 + k) h.row (.int .i64 x)
    rw [lcells_set x] at this
    exact this
  · rcases List.mem_or_eq_of_mem_set hy with h1 | h1
    · exact h.nxb y h1
    · rw [h1]; exact hx
theorem lput_any (base l : Nat) (sv : Value) (rs : List RC) (nx : List Int) (r : RC) (who : Int) (w : World) (hL : LgAt w base l sv rs nx) (hr : r.wf) (hn : rs.length < 1000) (hw : who < 64) (hbs0 : base ≤ w.heap.size) :
    Calls Tryd.prog 86 #[.pointer (some ⟨l, 0, none⟩), .agg r.cells.toArray, .int .i64 who] w fun e w' => e = .returned (.tuple #[]) ∧ (∃ sv', LgAt w' base l sv' (rs ++ [r]) (bump nx who) ∧ OwnNew w sv sv') ∧ LgTurn w w' l sv := by
  have HRW := Lib.hid hr
  have hB0 := bw_alloc (Below.refl w.heap.size w) (.cells r.cells.toArray 61)
  have hL0 := hL.below hB0
  have hg0 := heap_alloc_new w (.cells r.cells.toArray 61)
  have hll := block_lt hL.row
  have HB0 := Lib.hid hB0
  have HL0 := Lib.hid hL0
  have hc0 := hL0.c0
  have hsh : ∃ q n c, sv = .slice q n c := own_shape hL.own
  obtain ⟨sq, sn, sc, rfl⟩ := hsh
  have hwn : (Value.slice sq sn sc).ownBlock ≠ some w.heap.size := fun e => by
    rcases hL.own.2 with ⟨h1, _⟩ | ⟨g, cap, cur, h1, _, h2, _⟩
    · rw [h1] at e; cases e
    · rw [h1] at e
      have := block_lt h2
      simp only [Value.ownBlock, Option.some.injEq] at e
      omega
  have hne : w.heap.size ≠ l := by omega
  have KEEP : Hid (∀ W : World, W.heap[w.heap.size]? = some (.cells r.cells.toArray 61 (0, 0)) → W.rangeAt w.heap.size 0 r.cells) := show ∀ W : World, _ from fun W h2 => range_row h2 (by simp)
  have hu : Tryd.prog.underlying 61 = some _ := Tryd.underlying61
  clear hL hL0 hB0
  go_enter Tryd.func86, Tryd.ntmps86
  go_wp2_with fail
  generalize w.alloc (.cells r.cells.toArray 61) = w1 at *
  have hown := HL0.out.own
  have hbs : base ≤ w1.heap.size := Nat.le_trans hbs0 HB0.out.size
  have hg1 : w1.drew.heap[w.heap.size]? = some (.cells r.cells.toArray 61 (0, 0)) := hg0
  have hc1 : w1.drew.cell? ⟨l, 0, none⟩ = some (.slice sq sn sc) := hc0
  have hbA : Below w1.heap.size w1 (w1.drew.alloc (.cells r.cells.toArray 61)) := bw_alloc (Below.refl _ _).drew _
  have hg2 := (hbA.block _ (block_lt hg0)).trans hg0
  have hc2 := (hbA.cell (block_of_cell hc0)).trans hc0
  have hc3 : (w1.alloc (.cells r.cells.toArray 61)).cell? ⟨l, 0, none⟩ = some (.slice sq sn sc) := hc2
  have hown2 : w1.drew.ownsRow base 61 68 (.slice sq sn sc) rs.length (rcells rs) := hown
  have hlg : some l ≠ (Value.slice sq sn sc).ownBlock := fun e => by have := own_blk hown l e.symm; have := HL0.out.lt; omega
  have hwg : some w.heap.size ≠ (Value.slice sq sn sc).ownBlock := fun e => hwn e.symm
  have hrowl := HL0.out.row
  refine wp_region_held_drew (S := fun W => W.rangeAt w.heap.size 0 r.cells) (by kernel_rfl) (KEEP.out _ hg0) (fun hHeld => ?_)
  refine rg_gen (i := 0) (v := ?_) rfl (by kernel_rfl) (by kernel_rfl) (by kernel_rfl) (fun _ _ _ h => h) rfl (by rfl) ?_ (by assumption) ?_
  rotate_left
  · intro w hSw
    try dsimp only at hSw
    go_simp
    try with_reducible rfl
  try simp only [Act.put, List.setIfInBounds_toArray, List.set_cons_zero, List.set_cons_succ]
  refine rg_gen (i := 1) (v := ?_) rfl (by kernel_rfl) (by kernel_rfl) (by kernel_rfl) (fun _ _ _ h => h) rfl (by rfl) ?_ (by assumption) ?_
  rotate_left
  · intro w hSw
    try dsimp only at hSw
    go_simp
    try with_reducible rfl
  try simp only [Act.put, List.setIfInBounds_toArray, List.set_cons_zero, List.set_cons_succ]
  refine rg_gen (i := 2) (v := ?_) rfl (by kernel_rfl) (by kernel_rfl) (by kernel_rfl) (fun _ _ _ h => h) rfl (by rfl) ?_ (by assumption) ?_
  rotate_left
  · intro w hSw
    try dsimp only at hSw
    go_simp
    try with_reducible rfl
  try simp only [Act.put, List.setIfInBounds_toArray, List.set_cons_zero, List.set_cons_succ]
  refine rg_gen (i := 3) (v := ?_) rfl (by kernel_rfl) (by kernel_rfl) (by kernel_rfl) (fun _ _ _ h => h) rfl (by rfl) ?_ (by assumption) ?_
  rotate_left
  · intro w hSw
    try dsimp only at hSw
    go_simp
    try with_reducible rfl
  try simp only [Act.put, List.setIfInBounds_toArray, List.set_cons_zero, List.set_cons_succ]
  refine rg_row (i := 5) rfl (by kernel_rfl) (by kernel_rfl) (by kernel_rfl) (fun _ _ _ _ h => h) rfl (by rfl) 61 (.tmp 4) rfl w.heap.size 0 r.cells rfl (fun W h => h) hu rfl (rc_info HRW.out) (by assumption) ?_
  try simp only [Act.put, List.setIfInBounds_toArray, List.set_cons_zero, List.set_cons_succ]
  refine wpAnyH_ready (rs := [4, 6]) (by kernel_rfl) (by simp) ?_
  refine AllReadyH.cons rfl (fun K hK => ?_) (AllReadyH.cons rfl (fun K hK => ?_) AllReadyH.nil)
  go_simp
  refine hK.out _ _ (KEEP.out _ hg1) (fun hHeld1 => ?_)
  clear hK K
  try simp only [Act.put, List.setIfInBounds_toArray, List.set_cons_zero, List.set_cons_succ]
  refine rg_one (i := 6) (by kernel_rfl) rfl (fun K hK => ?_)
  rw [if_pos (by rfl)]
  refine wp_buildSlice 57 61 1 #[(0, .tmp 11)] rfl r.cells.toArray _ (.agg zlRc.toArray) Tryd.underlying57 rcinfo rfl (by decide) (by decide) (by simp only [List.map_toArray, List.map_cons, List.map_nil]; exact rc_fill HRW.out) ?_
  refine hK.out _ _ (KEEP.out _ hg2) (fun hHeld1 => ?_)
  clear hK K
  rotate_left
  rw [if_pos (by rfl)]
  refine wp_buildSlice 57 61 1 #[(0, .tmp 11)] rfl r.cells.toArray _ (.agg zlRc.toArray) Tryd.underlying57 rcinfo rfl (by decide) (by decide) (by simp only [List.map_toArray, List.map_cons, List.map_nil]; exact rc_fill HRW.out) ?_
  refine hK.out _ _ (KEEP.out _ hg2) (fun hHeld1 => ?_)
  clear hK K
  try simp only [Act.put, List.setIfInBounds_toArray]
  refine rg_one (i := 4) (by kernel_rfl) rfl (fun K hK => ?_)
  go_simp
  refine hK.out _ _ (KEEP.out _ hg2) (fun hHeld1 => ?_)
  clear hK K
  all_goals
    try simp only [Act.put, List.setIfInBounds_toArray]
    refine rg_one (i := 7) (by kernel_rfl) rfl (fun K hK => ?_)
    rw [if_pos (by rfl)]
    refine wp_append_own2 (.tmp 10) (.tmp 12) 57 rfl base 61 _ (.agg zlRc.toArray) 68 104 Tryd.underlying57 rcinfo rfl rfl rfl rfl (by decide) _ rs.length _ (by rfl) (hown2.alloc _) ⟨w1.heap.size, 0, none⟩ 1 1 r.cells (by rfl) (rc_len HRW.out) (rowat (heap_alloc_new w1.drew _)) (rc_one _) (by unfold maxLen; omega) (by omega) (Nat.le_trans hbs hbA.size) ?_
    intro v5 w5 hO5 hg5 hnw
    obtain ⟨q5, n5, c5, rfl⟩ := own_shape hO5
    have HNW : Hid (OwnNew w (.slice sq sn sc) (.slice q5 n5 c5)) := show OwnNew _ _ _ from fun k hk => (hnw k hk).imp id (fun h => Nat.le_trans HB0.out.size (Nat.le_trans hbA.size h))
    clear hnw
    have hlt5 : ∀ k, k < w1.heap.size → k < (w1.drew.alloc (.cells r.cells.toArray 61)).heap.size := fun k hk => Nat.lt_of_lt_of_le hk hbA.size
    have hrow5 : w5.heap[l]? = some (.cells (lcells (.slice sq sn sc) nx).toArray 110 (0, 0)) := (hg5.block l (hlt5 l (block_lt hrowl)) hlg).trans ((hbA.block _ (block_lt hrowl)).trans hrowl)
    have hbox5 : w5.heap[w.heap.size]? = some (.cells r.cells.toArray 61 (0, 0)) := (hg5.block _ (hlt5 _ (block_lt hg0)) hwg).trans hg2
    have hc5 : w5.cell? ⟨l, 0, none⟩ = some (.slice sq sn sc) := by rw [cell_of_row w5 l 0 _ _ _ hrow5]; rfl
    have hf5 : w5.frozen? ⟨l, 0, none⟩ = false := frozen_of_row w5 l 0 _ _ hrow5
    refine hK.out _ _ (KEEP.out _ hbox5) (fun hHeld2 => ?_)
    clear hK K
    try simp only [Act.put, List.setIfInBounds_toArray]
    refine rg_gen (i := 8) (v := ?_) rfl (by kernel_rfl) (by kernel_rfl) (by kernel_rfl) (fun _ _ _ h => h) rfl (by rfl) ?_ (by assumption) ?_
    rotate_left
    · intro w hSw
      try dsimp only at hSw
      go_simp
      try with_reducible rfl
    try simp only [Act.put]
    refine rg_gen (i := 9) (v := ?_) rfl (by kernel_rfl) (by kernel_rfl) (by kernel_rfl) (fun _ _ _ h => h) rfl (by rfl) ?_ (by assumption) ?_
    rotate_left
    · intro w hSw
      try dsimp only at hSw
      go_simp
      try with_reducible rfl
    try simp only [Act.put]
    refine rg_one (i := 10) (by kernel_rfl) rfl (fun K hK => ?_)
    go_simp
    have hbox6 : (w5.setCell ⟨l, 0, none⟩ (.slice q5 n5 c5)).heap[w.heap.size]? = some (.cells r.cells.toArray 61 (0, 0)) := (heap_setCell_other _ _ _ _ hne).trans hbox5
    refine hK.out _ _ (KEEP.out _ hbox6) (fun hHeld3 => ?_)
    clear hK K
    refine wpAnyH_done (by kernel_rfl) ?_ _
    have hL6 : LgAt (w5.setCell ⟨l, 0, none⟩ (.slice q5 n5 c5)) base l (.slice q5 n5 c5) (rs ++ [r]) nx := by
      refine ⟨HL0.out.len, set_row (i := 0) hrow5 (.slice q5 n5 c5), ?_, ?_, HL0.out.lt, ?_, ?_⟩
      · rw [List.length_append, rcells_app, rcells_one]
        exact ownsRow_setCell_other hO5 (fun e => by have := own_blk hO5 l e; have := HL0.out.lt; omega) _
      · intro x hx
        rcases List.mem_append.1 hx with h | h
        · exact HL0.out.wf x h
        · rw [List.mem_singleton.1 h]; exact HRW.out
      · rw [List.length_append]; simp; omega
      · intro x hx
        have := HL0.out.nxb x hx
        rw [List.length_append, List.length_singleton]
        omega
    have hT6 : LgTurn w1 (w5.setCell ⟨l, 0, none⟩ (.slice q5 n5 c5)) l (.slice sq sn sc) :=
      ⟨hg5.os, hg5.tape, hg5.output, Nat.le_trans hbA.size (Nat.le_trans hg5.size (by simp [World.setCell])), fun k hk h1 h2 => (heap_setCell_other _ _ _ _ h1).trans ((hg5.block k (hlt5 k hk) h2).trans (hbA.block k hk))⟩
    have HL6 := Lib.hid hL6
    have HNB := Lib.hid HL0.out.nxb
    have HT6 := Lib.hid (LgTurn.after HB0.out hT6)
    clear hL6 hT6 hbox6 hbox5 hrow5 hc5 hf5 hlt5 hO5 hg5 hHeld hHeld1 hHeld2 hHeld3 hown hown2 hg0 hg1 hg2 hc0 hc1 hc2 hc3 hbA KEEP HB0 HL0 hrowl hwg hlg hwn
    generalize w5.setCell ⟨l, 0, none⟩ (.slice q5 n5 c5) = W6 at *
    by_cases h0 : 0 ≤ who
    · obtain ⟨k, rfl⟩ : ∃ k : Nat, who = (k : Int) := ⟨who.toNat, by omega⟩
      have hk64 : k < 64 := by omega
      have hd0 : decide ((0 : Int) ≤ k) = true := decide_eq_true h0
      have f1 : (k : Int) < 64 := by omega
      obtain ⟨x, hx⟩ : ∃ x, x = nx.getD k 0 := ⟨_, rfl⟩
      have hxb : 0 ≤ x ∧ x ≤ (rs ++ [r]).length := by
        rw [hx, List.getD_eq_getElem?_getD, List.getElem?_eq_getElem (by rw [HL6.out.len]; exact hk64)]
        exact HL6.out.nxb _ (List.getElem_mem _)
      have e1 : IntKind.i64.wrap (x + 1) = x + 1 := IntWalk.i64_in _ (by have := HL6.out.small; omega)
      have g1 : W6.cell? ⟨l, 1 + k, none⟩ = some (.int .i64 x) := by rw [hx]; exact HL6.out.cn hk64
      have HX : Hid (bump nx (k : Int) = nx.set k (x + 1)) := show _ = _ by rw [bump, if_pos h0, hx]; rfl
      have hxb2 : 0 ≤ x + 1 ∧ x + 1 ≤ (rs ++ [r]).length := by
        have hx1 : 0 ≤ x ∧ x ≤ rs.length := by
          rw [hx, List.getD_eq_getElem?_getD, List.getElem?_eq_getElem (by rw [HL6.out.len]; exact hk64)]
          exact HNB.out _ (List.getElem_mem _)
        rw [List.length_append, List.length_singleton]
        omega
      clear hx
      go_wp2_with fail
      go_still_tail 10, (by kernel_rfl)
      change wpList _ _ _ _ _ W6.drew
      have g2 : W6.drew.cell? ⟨l, 1 + k, none⟩ = some (.int .i64 x) := g1
      have gf : W6.drew.frozen? ⟨l, 1 + k, none⟩ = false := HL6.out.free _
      have HL7 := Lib.hid (HL6.out.below (Below.refl _ _).drew)
      have HT7 := Lib.hid (HT6.out.next (Below.refl _ _).drew)
      clear g1 HL6 HT6
      generalize W6.drew = W7 at *
      go_wp2_with fail
      go_end0
      refine ⟨rfl, ⟨.slice q5 n5 c5, ?_, HNW.out⟩, ?_⟩
      · rw [HX.out]; exact HL7.out.setn hk64 hxb2
      · exact ⟨HT7.out.os, HT7.out.tape, HT7.out.output, Nat.le_trans HT7.out.size (by simp [World.setCell]), fun k hk h1 h2 => (heap_setCell_other _ _ _ _ h1).trans (HT7.out.block k hk h1 h2)⟩
    · have hd0 : decide ((0 : Int) ≤ who) = false := decide_eq_false h0
      have HX : Hid (bump nx who = nx) := show _ = _ by rw [bump, if_neg h0]
      clear h0
      go_wp2_with fail
      go_end0
      exact ⟨rfl, ⟨.slice q5 n5 c5, by rw [HX.out]; exact HL6.out, HNW.out⟩, HT6.out⟩
/-- the counts behind a receipt -/
def cnt1 (nx : List Int) (r : RC) : List Int := if r.kind = 1 then (match rdTx r.body with | .ok t => bump nx t.frm | .error _ => nx) else nx
def cnt (rs : List RC) : List Int := rs.foldl cnt1 zn64
theorem cnt_snoc (rs : List RC) (r : RC) : cnt (rs ++ [r]) = cnt1 (cnt rs) r := by simp [cnt]
theorem mk_bad {rs : List RC} {nx : List Int} {k t : Int} {b : ByteArray} (h : mkErr rs nx k b t ≠ 0) : mkRc rs nx k b t = RC.zero := by
  unfold mkErr at h
  unfold mkRc
  split
  · rename_i h1
    rw [if_pos h1] at h
    unfold linkErr at h
    unfold linkRes
    split
    · rename_i h2
      rw [if_pos h2] at h
      exact absurd rfl h
    · rfl
  · rfl
theorem mk_ok {rs : List RC} {nx : List Int} {k t : Int} {b : ByteArray} (h : mkErr rs nx k b t = 0) :
    (fromOf rs nx k b t).2 = 0 ∧ (RC.mk rs.length k t b (headOf rs) z32).good = true ∧ mkRc rs nx k b t = linkOf (headOf rs) rs.length k t b ∧ mkWho rs nx k b t = (fromOf rs nx k b t).1 := by
  unfold mkErr at h
  split at h
  · rename_i h1
    unfold linkErr at h
    split at h
    · rename_i h2
      refine ⟨h1, h2, ?_, ?_⟩
      · rw [mkRc, if_pos h1, linkRes, if_pos h2]
      · rw [mkWho, if_pos h1]
    · exact absurd h (by decide)
  · exact absurd h (by assumption)
theorem from_ok {rs : List RC} {nx : List Int} {k t : Int} {b : ByteArray} (h : (fromOf rs nx k b t).2 = 0) :
    isLate rs t = false ∧ ((k = 1 ∧ ∃ x, rdTx b = .ok x ∧ x.signed = 0 ∧ x.nonce = nx.getD x.frm.toNat 0 ∧ (fromOf rs nx k b t).1 = x.frm) ∨ (k ≠ 1 ∧ (fromOf rs nx k b t).1 = -1)) := by
  unfold fromOf at h ⊢
  split at h
  · exact absurd h (by decide)
  · rename_i h1
    rw [if_neg h1]
    refine ⟨by simpa using h1, ?_⟩
    split at h
    · rename_i h2
      rw [if_pos h2]
      refine .inl ⟨h2, ?_⟩
      unfold theirs at h ⊢
      split at h
      · exact absurd h (by simp)
      · rename_i x hx
        split at h
        · rename_i h3
          split at h
          · rename_i h4
            refine ⟨x, hx, h3, h4, ?_⟩
            simp only [if_pos h3, if_pos h4]
          · exact absurd h (by simp)
        · exact absurd h (by simp)
    · rename_i h2
      rw [if_neg h2]
      exact .inr ⟨h2, rfl⟩
theorem frm_of {b : ByteArray} {x : TX} (h : rdTx b = .ok x) : 0 ≤ x.frm ∧ x.frm < 64 := by
  obtain ⟨_, hc, _⟩ := tx_back h
  have := (TX.chk_zero hc).1
  omega
theorem mkWho_lt (rs : List RC) (nx : List Int) (k t : Int) (b : ByteArray) : mkWho rs nx k b t < 64 := by
  unfold mkWho
  split
  · rename_i h
    rcases (from_ok h).2 with ⟨_, x, hx, _, _, h5⟩ | ⟨_, h5⟩
    · rw [h5]; exact (frm_of hx).2
    · rw [h5]; decide
  · decide
theorem cnt_mk {rs : List RC} {nx : List Int} {k t : Int} {b : ByteArray} (h : mkErr rs nx k b t = 0) : bump nx (mkWho rs nx k b t) = cnt1 nx (mkRc rs nx k b t) := by
  obtain ⟨h1, _, h3, h4⟩ := mk_ok h
  rw [h3, h4, cnt1]
  rcases (from_ok h1).2 with ⟨hk, x, hx, _, _, h5⟩ | ⟨hk, h5⟩
  · rw [if_pos (show (linkOf (headOf rs) rs.length k t b).kind = 1 from hk), h5, show (linkOf (headOf rs) rs.length k t b).body = b from rfl, hx]
  · rw [if_neg (show ¬ (linkOf (headOf rs) rs.length k t b).kind = 1 from hk), h5]
    rfl
/-- the receipts behind an Add -/
def nextRs (rs : List RC) (k : Int) (b : ByteArray) (t : Int) : List RC := if mkErr rs (cnt rs) k b t = 0 then rs ++ [mkRc rs (cnt rs) k b t] else rs
theorem next_ok {rs : List RC} {k t : Int} {b : ByteArray} (h : mkErr rs (cnt rs) k b t = 0) : nextRs rs k b t = rs ++ [mkRc rs (cnt rs) k b t] ∧ bump (cnt rs) (mkWho rs (cnt rs) k b t) = cnt (rs ++ [mkRc rs (cnt rs) k b t]) :=
  ⟨by rw [nextRs, if_pos h], by rw [cnt_snoc, cnt_mk h]⟩
theorem next_bad {rs : List RC} {k t : Int} {b : ByteArray} (h : mkErr rs (cnt rs) k b t ≠ 0) : nextRs rs k b t = rs := by rw [nextRs, if_neg h]
theorem next_length (rs : List RC) (k t : Int) (b : ByteArray) : (nextRs rs k b t).length ≤ rs.length + 1 := by
  unfold nextRs
  split <;> simp
theorem mkRc_wf {rs : List RC} {nx : List Int} {k t : Int} {b : ByteArray} (h : ∀ r ∈ rs, r.wf) (hn : rs.length ≤ 1000) (h1 : i64ok k) (h2 : i64ok t) (hs : b.size ≤ 140737488351232) : (mkRc rs nx k b t).wf := by
  unfold mkRc
  split
  · exact linkRes_wf (rc0_wf h hn h1 h2 hs)
  · exact RC.zero_wf
/-- a receipt is the one that comes next -/
def OkStep (rs : List RC) (r : RC) : Prop := mkErr rs (cnt rs) r.kind r.body r.time = 0 ∧ mkRc rs (cnt rs) r.kind r.body r.time = r
instance (rs : List RC) (r : RC) : Decidable (OkStep rs r) := by unfold OkStep; infer_instance
theorem OkStep.of_mk {rs : List RC} {k t : Int} {b : ByteArray} (h : mkErr rs (cnt rs) k b t = 0) : OkStep rs (mkRc rs (cnt rs) k b t) := by
  have h3 := (mk_ok h).2.2.1
  have e1 : (mkRc rs (cnt rs) k b t).kind = k := by rw [h3]; rfl
  have e2 : (mkRc rs (cnt rs) k b t).body = b := by rw [h3]; rfl
  have e3 : (mkRc rs (cnt rs) k b t).time = t := by rw [h3]; rfl
  unfold OkStep
  rw [e1, e2, e3]
  exact ⟨h, rfl⟩
theorem OkStep.is {rs : List RC} {r : RC} (h : OkStep rs r) : r = linkOf (headOf rs) rs.length r.kind r.time r.body := by rw [← (mk_ok h.1).2.2.1, h.2]
theorem OkStep.index {rs : List RC} {r : RC} (h : OkStep rs r) : r.index = rs.length := by rw [h.is]; rfl
theorem OkStep.good {rs : List RC} {r : RC} (h : OkStep rs r) : r.good = true := by
  have h2 := (mk_ok h.1).2.1
  rw [h.is]
  exact h2
theorem OkStep.next {rs : List RC} {r : RC} (h : OkStep rs r) : nextRs rs r.kind r.body r.time = rs ++ [r] := by rw [(next_ok h.1).1, h.2]
/-- receipts of which each is the one that comes next -/
def Chain (rs : List RC) : Prop := ∀ i (h : i < rs.length), OkStep (rs.take i) (rs[i]'h)
theorem Chain.nil : Chain [] := fun i h => absurd h (by simp)
theorem Chain.snoc {rs : List RC} {r : RC} (h : Chain rs) (hr : OkStep rs r) : Chain (rs ++ [r]) := by
  intro i hi
  rw [List.length_append, List.length_singleton] at hi
  by_cases h1 : i < rs.length
  · rw [List.take_append_of_le_length (by omega), List.getElem_append_left h1]
    exact h i h1
  · obtain rfl : i = rs.length := by omega
    rw [List.take_left, List.getElem_append_right (by omega)]
    simpa using hr
theorem Chain.next {rs : List RC} {k t : Int} {b : ByteArray} (h : Chain rs) : Chain (nextRs rs k b t) := by
  unfold nextRs
  split
  · rename_i h1
    exact h.snoc (OkStep.of_mk h1)
  · exact h
theorem Chain.wf {rs : List RC} (h : Chain rs) : ∀ r ∈ rs, r.good = true := by
  intro r hr
  obtain ⟨i, hi, rfl⟩ := List.mem_iff_getElem.1 hr
  exact (h i hi).good
/-- a receipt of a place is none that comes next at another place -/
theorem Chain.other {rs : List RC} (h : Chain rs) {i k : Nat} (hi : i < rs.length) (hk : k < i) : ¬ OkStep (rs.take k) (rs[i]'hi) := fun h2 => by
  have h3 := h2.index
  rw [(h i hi).index, List.length_take, List.length_take] at h3
  omega
open Go.RowKit
set_option maxHeartbeats 2000000
set_option maxRecDepth 4000
theorem OwnNew.refl (w : World) (v : Value) : OwnNew w v v := fun _ h => .inl h
theorem LgAt.lts {W : World} {base l : Nat} {sv : Value} {rs : List RC} {nx : List Int} (h : LgAt W base l sv rs nx) : l < W.heap.size ∧ ∀ k, sv.ownBlock = some k → k < W.heap.size := ⟨block_lt h.row, fun k hk => (h.own.lt k hk).2⟩
theorem LgAt.upd {W W' : World} {base l : Nat} {sv : Value} {rs : List RC} {nx : List Int} (h : LgAt W base l sv rs nx) {b : Nat} {o : Obj} (hU : Upd W W' b o) (hl : b ≠ l) (ho : sv.ownBlock ≠ some b) : LgAt W' base l sv rs nx := by
  refine ⟨h.len, (hU.other _ (Ne.symm hl)).trans h.row, ⟨h.own.1, ?_⟩, h.wf, h.lt, h.small, h.nxb⟩
  rcases h.own.2 with h2 | ⟨g, cap, cur, h1, h2, h3, r⟩
  · exact .inl h2
  · exact .inr ⟨g, cap, cur, h1, h2, (hU.other g (fun e => ho (by rw [h1, ← e]; rfl))).trans h3, r⟩
theorem LgTurn.upd {w W W' : World} {l : Nat} {sv : Value} (h : LgTurn w W l sv) {b : Nat} {o : Obj} (hU : Upd W W' b o) (hb : w.heap.size ≤ b) : LgTurn w W' l sv :=
  ⟨hU.os.trans h.os, hU.tape.trans h.tape, hU.output.trans h.output, by rw [hU.size]; exact h.size, fun k hk h1 h2 => (hU.other k (by omega)).trans (h.block k hk h1 h2)⟩
theorem rc_eqG (op : BinOp) (x y : Operand) (xs ys : Array Value) (w : World) : (eqGuard op 61 x y (.agg xs) (.agg ys)).run Tryd.prog w = .ok () w := run_eqGuard_agg w op _ x y xs ys (by kernel_rfl)
theorem rc_eql {t u : RC} (ht : t.wf) (hu : u.wf) (w : World) : (binOp .eql 61 (.agg t.cells.toArray) (.agg u.cells.toArray)).run Tryd.prog w = .ok (.bool (decide (t = u))) w := by
  rw [run_eql_struct, rc_eq ht hu]
  rfl
theorem rc_neq {t u : RC} (ht : t.wf) (hu : u.wf) (w : World) : (binOp .neq 61 (.agg t.cells.toArray) (.agg u.cells.toArray)).run Tryd.prog w = .ok (.bool !(decide (t = u))) w := by
  rw [run_neq_struct, rc_eq ht hu]
  rfl
theorem add_any (base l : Nat) (sv : Value) (rs : List RC) (kind : Int) (body : ByteArray) (time : Int) (w : World) (hL : LgAt w base l sv rs (cnt rs)) (h1 : i64ok kind) (h2 : i64ok time) (hs : body.size ≤ 140737488351232) (hR : RoundsAt w) (hn : rs.length < 1000) (hbs : base ≤ w.heap.size) :
    Calls Tryd.prog 50 #[.pointer (some ⟨l, 0, none⟩), .int .i64 kind, .string body, .int .i64 time] w fun e w' =>
      e = .returned (.tuple #[.agg (mkRc rs (cnt rs) kind body time).cells.toArray, .int .i64 (mkErr rs (cnt rs) kind body time)]) ∧ (∃ sv', LgAt w' base l sv' (nextRs rs kind body time) (cnt (nextRs rs kind body time)) ∧ OwnNew w sv sv') ∧ LgTurn w w' l sv := by
  have hz0 : (w.alloc (.cells Tryd.zeroCells61 61)).heap[w.heap.size]? = some (.cells zlRc.toArray 61 (0, 0)) := heap_alloc_new _ _
  have hB0 := bw_alloc (Below.refl w.heap.size w) (.cells Tryd.zeroCells61 61)
  have HMK := Lib.hid (make_any base l sv rs (cnt rs) kind body time _ (hL.below hB0) h1 h2 hs (hR.below hB0 hR.1))
  have HRW : Hid (mkRc rs (cnt rs) kind body time).wf := show _ from mkRc_wf hL.wf hL.small h1 h2 hs
  have HWH : Hid (mkWho rs (cnt rs) kind body time < 64) := show _ < _ from mkWho_lt _ _ _ _ _
  have HOK : Hid (mkErr rs (cnt rs) kind body time = 0 → nextRs rs kind body time = rs ++ [mkRc rs (cnt rs) kind body time] ∧ bump (cnt rs) (mkWho rs (cnt rs) kind body time) = cnt (rs ++ [mkRc rs (cnt rs) kind body time])) := show _ → _ from next_ok
  have HBAD : Hid (mkErr rs (cnt rs) kind body time ≠ 0 → nextRs rs kind body time = rs ∧ mkRc rs (cnt rs) kind body time = RC.zero) := show _ → _ from fun h => ⟨next_bad h, mk_bad h⟩
  obtain ⟨nrs, hnrs⟩ : ∃ x, x = nextRs rs kind body time := ⟨_, rfl⟩
  obtain ⟨r, hr⟩ : ∃ x, x = mkRc rs (cnt rs) kind body time := ⟨_, rfl⟩
  obtain ⟨wh, hwh⟩ : ∃ x, x = mkWho rs (cnt rs) kind body time := ⟨_, rfl⟩
  obtain ⟨er, her⟩ : ∃ x, x = mkErr rs (cnt rs) kind body time := ⟨_, rfl⟩
  rw [← hr, ← hwh, ← her] at HMK
  rw [← hr] at HRW
  rw [← hwh] at HWH
  rw [← hnrs, ← hr, ← hwh, ← her] at HOK
  rw [← hnrs, ← hr, ← her] at HBAD
  rw [← hnrs, ← hr, ← her]
  have HL := Lib.hid hL
  have HR := Lib.hid hR
  have HB0 := Lib.hid hB0
  have HRL : Hid (r.cells.length = zlRc.length) := show _ = _ from rc_len HRW.out
  clear hnrs hr hwh her hL hR hB0
  by_cases he : er = 0
  · subst he
    have HQ := Lib.hid (HOK.out rfl)
    clear HOK HBAD
    go_enter Tryd.func50, Tryd.ntmps50
    go_wp2_with fail
    refine HMK.out.mono ?_
    rintro e w1 ⟨rfl, hb1⟩
    have hZ1 := keep_row hb1 hz0
    have hZ1a := (Below.heap_alloc w1 (.cells Tryd.zeroCells61 61) _ (block_lt hZ1)).trans hZ1
    have hz1 : (w1.alloc (.cells Tryd.zeroCells61 61)).heap[w1.heap.size]? = some (.cells zlRc.toArray 61 (0, 0)) := heap_alloc_new w1 _
    have HB1 := Lib.hid (bw_alloc (bw_call HB0.out hb1) (.cells Tryd.zeroCells61 61))
    have hn1 : w.heap.size ≠ w1.heap.size := Nat.ne_of_lt (block_lt hZ1)
    have hl1 : w.heap.size ≤ w1.heap.size := Nat.le_of_lt (block_lt hZ1)
    clear hb1 hz0 hZ1 HMK HB0
    go_wp2_with (first
      | ((with_reducible refine wpList_store_whole rfl 61 (.tmp 10) (.tmp 19) rfl w1.heap.size r.cells zlRc 61 rfl rfl hz1 HRL.out (rc_info HRW.out) (rc_one _) ?_); intro w2 hU2; have hT2 := hU2.out.at_; have hZ2 := (hU2.out.other _ hn1).trans hZ1a; have HB2 := Lib.hid (hU2.out.below HB1.out hl1); clear hz1 hZ1a)
      | (with_reducible refine wpList_load_rows rfl 61 (.tmp 10) rfl w1.heap.size 0 r.cells r.cells 61 (0, 0) _ rfl hT2 id_at Tryd.underlying61 rfl (rc_info HRW.out) ?_))
    have HL2 := Lib.hid (HL.out.below HB2.out)
    refine (lput_any base l sv rs (cnt rs) r wh _ HL2.out HRW.out hn HWH.out (Nat.le_trans hbs HB2.out.size)).mono ?_
    rintro e w4 ⟨rfl, ⟨sv4, hL4, hnw4⟩, hT4⟩
    have hlt := HL.out.lts
    have hb2 := block_lt hT2
    have ho1 : ∀ k, w.heap.size ≤ k → k < w2.heap.size → k ≠ l ∧ some k ≠ sv.ownBlock ∧ sv4.ownBlock ≠ some k := fun k h1 h2 => ⟨by omega, fun h => by have := hlt.2 k h.symm; omega, fun h => by
      rcases hnw4 k h with h3 | h3
      · have := hlt.2 k h3; omega
      · omega⟩
    have hB4 := (hT4.block _ hb2 (ho1 _ hl1 hb2).1 (ho1 _ hl1 hb2).2.1).trans hT2
    have hZ4 := (hT4.block _ (block_lt hZ2) (ho1 _ (Nat.le_refl _) (block_lt hZ2)).1 (ho1 _ (Nat.le_refl _) (block_lt hZ2)).2.1).trans hZ2
    have HL4 : Hid (LgAt w4 base l sv4 nrs (cnt nrs)) := show LgAt _ _ _ _ _ _ from by rw [HQ.out.1, ← HQ.out.2]; exact hL4
    have HNW : Hid (OwnNew w sv sv4) := show OwnNew _ _ _ from fun k hk => (hnw4 k hk).imp id (fun h => Nat.le_trans HB2.out.size h)
    have HT4 := Lib.hid (LgTurn.after HB2.out hT4)
    have HNE : Hid (w.heap.size ≠ l ∧ sv4.ownBlock ≠ some w.heap.size) := show _ ∧ _ from ⟨(ho1 _ (Nat.le_refl _) (block_lt hZ2)).1, (ho1 _ (Nat.le_refl _) (block_lt hZ2)).2.2⟩
    clear hlt hb2 ho1 hL4 hnw4 hT4 hT2 hZ2 hU2 HL2
    go_wp2_with (first
      | (with_reducible refine wpList_load_rows rfl 61 (.tmp 10) rfl w1.heap.size 0 r.cells r.cells 61 (0, 0) _ rfl hB4 id_at Tryd.underlying61 rfl (rc_info HRW.out) ?_)
      | ((with_reducible refine wpList_store_whole rfl 61 (.tmp 8) (.tmp 30) rfl w.heap.size r.cells zlRc 61 rfl rfl hZ4 HRL.out (rc_info HRW.out) (rc_one _) ?_); intro w5 hU5))
    exact post_cell_tmp 8 9 61 rfl w.heap.size _ r.cells _ _ hU5.out.at_ Tryd.underlying61 rfl (rc_info HRW.out) (.int .i64 0) rfl rfl rfl ⟨rfl, ⟨sv4, HL4.out.upd hU5.out HNE.out.1 HNE.out.2, HNW.out⟩, HT4.out.upd hU5.out (Nat.le_refl _)⟩
  · have hd : (er != 0) = true := by simpa using he
    have HQ := Lib.hid (HBAD.out he)
    clear HOK HBAD he
    go_enter Tryd.func50, Tryd.ntmps50
    go_wp2_with fail
    refine HMK.out.mono ?_
    rintro e w1 ⟨rfl, hb1⟩
    have hZ1 := keep_row hb1 hz0
    have hZ1a := (Below.heap_alloc w1 (.cells Tryd.zeroCells61 61) _ (block_lt hZ1)).trans hZ1
    have hz1 : (w1.alloc (.cells Tryd.zeroCells61 61)).heap[w1.heap.size]? = some (.cells zlRc.toArray 61 (0, 0)) := heap_alloc_new w1 _
    have HB1 := Lib.hid (bw_alloc (bw_call HB0.out hb1) (.cells Tryd.zeroCells61 61))
    have hn1 : w.heap.size ≠ w1.heap.size := Nat.ne_of_lt (block_lt hZ1)
    have hl1 : w.heap.size ≤ w1.heap.size := Nat.le_of_lt (block_lt hZ1)
    clear hb1 hz0 hZ1 HMK HB0
    go_wp2_with (first
      | ((with_reducible refine wpList_store_whole rfl 61 (.tmp 10) (.tmp 19) rfl w1.heap.size r.cells zlRc 61 rfl rfl hz1 HRL.out (rc_info HRW.out) (rc_one _) ?_); intro w2 hU2; have hZ2 := (hU2.out.other _ hn1).trans hZ1a; have HB2 := Lib.hid (hU2.out.below HB1.out hl1); clear hz1 hZ1a)
      | (with_reducible refine wpList_build rfl 61 [] rfl [] (.agg zlRc.toArray) rfl (rc_build0 _) ?_)
      | ((with_reducible refine wpList_store_whole rfl 61 (.tmp 8) (.tmp 24) rfl w.heap.size zlRc zlRc 61 rfl rfl hZ2 rfl zlRc_info zlRc_one ?_); intro w5 hU5; have HB5 := Lib.hid (hU5.out.below HB2.out (Nat.le_refl _))))
    exact post_cell_tmp 8 9 61 rfl w.heap.size _ zlRc _ _ hU5.out.at_ Tryd.underlying61 rfl zlRc_info (.int .i64 er) rfl rfl rfl ⟨by rw [HQ.out.2]; rfl, ⟨sv, by rw [HQ.out.1]; exact HL.out.below HB5.out, OwnNew.refl _ _⟩, LgTurn.of l sv HB5.out⟩
theorem make_nil (kind : Int) (body : ByteArray) (time : Int) (w : World) :
    Calls Tryd.prog 85 #[.pointer none, .int .i64 kind, .string body, .int .i64 time] w fun e w' => e = .returned (.tuple #[.agg RC.zero.cells.toArray, .int .i64 0, .int .i64 1]) ∧ Below w.heap.size w w' := by
  have hz0 : (w.alloc (.cells Tryd.zeroCells61 61)).heap[w.heap.size]? = some (.cells zlRc.toArray 61 (0, 0)) := heap_alloc_new _ _
  have HB0 := Lib.hid (bw_alloc (Below.refl w.heap.size w) (.cells Tryd.zeroCells61 61))
  go_enter Tryd.func85, Tryd.ntmps85
  go_wp2_with fail
  refine (from_nil kind body time _).mono ?_
  rintro e w1 ⟨rfl, hb1⟩
  have hz := keep_row hb1 hz0
  have HB1 := Lib.hid (bw_call HB0.out hb1)
  clear hb1 hz0
  go_wp2_with (first
    | (with_reducible refine wpList_build rfl 61 [] rfl [] (.agg zlRc.toArray) rfl (rc_build0 _) ?_)
    | ((with_reducible refine wpList_store_whole rfl 61 (.tmp 8) (.tmp 24) rfl w.heap.size zlRc zlRc 61 rfl rfl hz rfl zlRc_info zlRc_one ?_); intro w6 hU6))
  exact post_cell_tmp2 8 9 10 61 rfl w.heap.size _ zlRc _ _ hU6.out.at_ Tryd.underlying61 rfl zlRc_info (.int .i64 0) (.int .i64 1) rfl rfl rfl rfl ⟨rfl, hU6.out.below HB1.out (Nat.le_refl _)⟩
theorem add_nil (kind : Int) (body : ByteArray) (time : Int) (w : World) :
    Calls Tryd.prog 50 #[.pointer none, .int .i64 kind, .string body, .int .i64 time] w fun e w' => e = .returned (.tuple #[.agg RC.zero.cells.toArray, .int .i64 1]) ∧ Below w.heap.size w w' := by
  have hz0 : (w.alloc (.cells Tryd.zeroCells61 61)).heap[w.heap.size]? = some (.cells zlRc.toArray 61 (0, 0)) := heap_alloc_new _ _
  have HB0 := Lib.hid (bw_alloc (Below.refl w.heap.size w) (.cells Tryd.zeroCells61 61))
  go_enter Tryd.func50, Tryd.ntmps50
  go_wp2_with fail
  refine (make_nil kind body time _).mono ?_
  rintro e w1 ⟨rfl, hb1⟩
  have hZ1 := keep_row hb1 hz0
  have hZ1a := (Below.heap_alloc w1 (.cells Tryd.zeroCells61 61) _ (block_lt hZ1)).trans hZ1
  have hz1 : (w1.alloc (.cells Tryd.zeroCells61 61)).heap[w1.heap.size]? = some (.cells zlRc.toArray 61 (0, 0)) := heap_alloc_new w1 _
  have HB1 := Lib.hid (bw_alloc (bw_call HB0.out hb1) (.cells Tryd.zeroCells61 61))
  have hn1 : w.heap.size ≠ w1.heap.size := Nat.ne_of_lt (block_lt hZ1)
  have hl1 : w.heap.size ≤ w1.heap.size := Nat.le_of_lt (block_lt hZ1)
  clear hb1 hz0 hZ1 HB0
  go_wp2_with (first
    | ((with_reducible refine wpList_store_whole rfl 61 (.tmp 10) (.tmp 19) rfl w1.heap.size RC.zero.cells zlRc 61 rfl rfl hz1 rfl (rc_info RC.zero_wf) (rc_one _) ?_); intro w2 hU2; have hZ2 := (hU2.out.other _ hn1).trans hZ1a; have HB2 := Lib.hid (hU2.out.below HB1.out hl1); clear hz1 hZ1a)
    | (with_reducible refine wpList_build rfl 61 [] rfl [] (.agg zlRc.toArray) rfl (rc_build0 _) ?_)
    | ((with_reducible refine wpList_store_whole rfl 61 (.tmp 8) (.tmp 24) rfl w.heap.size zlRc zlRc 61 rfl rfl hZ2 rfl zlRc_info zlRc_one ?_); intro w5 hU5; have HB5 := Lib.hid (hU5.out.below HB2.out (Nat.le_refl _))))
  exact post_cell_tmp 8 9 61 rfl w.heap.size _ zlRc _ _ hU5.out.at_ Tryd.underlying61 rfl zlRc_info (.int .i64 1) rfl rfl rfl ⟨rfl, HB5.out⟩
/-- what Load answers -/
def ldErr (rs : List RC) (r : RC) : Int := if OkStep rs r then 0 else 7
def loadRs (rs : List RC) (r : RC) : List RC := if OkStep rs r then rs ++ [r] else rs
theorem load_any (base l : Nat) (sv : Value) (rs : List RC) (r : RC) (w : World) (hL : LgAt w base l sv rs (cnt rs)) (hr : r.wf) (hR : RoundsAt w) (hn : rs.length < 1000) (hbs : base ≤ w.heap.size) :
    Calls Tryd.prog 46 #[.pointer (some ⟨l, 0, none⟩), .agg r.cells.toArray] w fun e w' =>
      e = .returned (.int .i64 (ldErr rs r)) ∧ (∃ sv', LgAt w' base l sv' (loadRs rs r) (cnt (loadRs rs r)) ∧ OwnNew w sv sv') ∧ LgTurn w w' l sv := by
  have hg0 := heap_alloc_new w (.cells r.cells.toArray 61)
  have hB0 := bw_alloc (Below.refl w.heap.size w) (.cells r.cells.toArray 61)
  have HMK := Lib.hid (make_any base l sv rs (cnt rs) r.kind r.body r.time _ (hL.below hB0) hr.kind hr.time hr.body (hR.below hB0 hR.1))
  have HQW : Hid (mkRc rs (cnt rs) r.kind r.body r.time).wf := show _ from mkRc_wf hL.wf hL.small hr.kind hr.time hr.body
  have HWH : Hid (mkWho rs (cnt rs) r.kind r.body r.time < 64) := show _ < _ from mkWho_lt _ _ _ _ _
  have HOK : Hid (mkErr rs (cnt rs) r.kind r.body r.time = 0 → mkRc rs (cnt rs) r.kind r.body r.time = r → ldErr rs r = 0 ∧ loadRs rs r = rs ++ [r] ∧ bump (cnt rs) (mkWho rs (cnt rs) r.kind r.body r.time) = cnt (rs ++ [r])) := show _ → _ from fun h1 h2 => ⟨if_pos ⟨h1, h2⟩, if_pos ⟨h1, h2⟩, by rw [(next_ok h1).2, h2]⟩
  have HBAD : Hid (¬ (mkErr rs (cnt rs) r.kind r.body r.time = 0 ∧ mkRc rs (cnt rs) r.kind r.body r.time = r) → ldErr rs r = 7 ∧ loadRs rs r = rs) := show _ → _ from fun h => ⟨if_neg h, if_neg h⟩
  obtain ⟨nrs, hnrs⟩ : ∃ x, x = loadRs rs r := ⟨_, rfl⟩
  obtain ⟨le, hle⟩ : ∃ x, x = ldErr rs r := ⟨_, rfl⟩
  obtain ⟨q, hq⟩ : ∃ x, x = mkRc rs (cnt rs) r.kind r.body r.time := ⟨_, rfl⟩
  obtain ⟨wh, hwh⟩ : ∃ x, x = mkWho rs (cnt rs) r.kind r.body r.time := ⟨_, rfl⟩
  obtain ⟨er, her⟩ : ∃ x, x = mkErr rs (cnt rs) r.kind r.body r.time := ⟨_, rfl⟩
  rw [← hq, ← hwh, ← her] at HMK
  rw [← hq] at HQW
  rw [← hwh] at HWH
  rw [← hnrs, ← hle, ← hq, ← hwh, ← her] at HOK
  rw [← hnrs, ← hle, ← hq, ← her] at HBAD
  rw [← hnrs, ← hle]
  have HL := Lib.hid hL
  have HR := Lib.hid hR
  have HRW := Lib.hid hr
  have HB0 := Lib.hid hB0
  have HRL : Hid (q.cells.length = zlRc.length) := show _ = _ from rc_len HQW.out
  have c1 : (w.alloc (.cells r.cells.toArray 61)).cell? ⟨w.heap.size, 1, none⟩ = some (.int .i64 r.kind) := by rw [cell_of_row _ w.heap.size 1 _ _ _ hg0]; rfl
  have c2 : (w.alloc (.cells r.cells.toArray 61)).cell? ⟨w.heap.size, 2, none⟩ = some (.int .i64 r.time) := by rw [cell_of_row _ w.heap.size 2 _ _ _ hg0]; rfl
  have c3 : (w.alloc (.cells r.cells.toArray 61)).cell? ⟨w.heap.size, 3, none⟩ = some (.string r.body) := by rw [cell_of_row _ w.heap.size 3 _ _ _ hg0]; rfl
  clear hnrs hle hq hwh her hL hR hB0 hr
  by_cases he : er = 0
  · by_cases hqr : q = r
    · subst he
      subst hqr
      have HQ := Lib.hid (HOK.out rfl rfl)
      clear HOK HBAD
      go_enter Tryd.func46, Tryd.ntmps46
      go_wp2_with fail
      refine HMK.out.mono ?_
      rintro e w1 ⟨rfl, hb1⟩
      have hZ1 := keep_row hb1 hg0
      have hZ1a := (Below.heap_alloc w1 (.cells Tryd.zeroCells61 61) _ (block_lt hZ1)).trans hZ1
      have hz1 : (w1.alloc (.cells Tryd.zeroCells61 61)).heap[w1.heap.size]? = some (.cells zlRc.toArray 61 (0, 0)) := heap_alloc_new w1 _
      have HB1 := Lib.hid (bw_alloc (bw_call HB0.out hb1) (.cells Tryd.zeroCells61 61))
      have hn1 : w.heap.size ≠ w1.heap.size := Nat.ne_of_lt (block_lt hZ1)
      have hl1 : w.heap.size ≤ w1.heap.size := Nat.le_of_lt (block_lt hZ1)
      clear hb1 hg0 hZ1 HMK HB0 c1 c2 c3
      go_wp2_with (first
        | ((with_reducible refine wpList_store_whole rfl 61 (.tmp 5) (.tmp 19) rfl w1.heap.size q.cells zlRc 61 rfl rfl hz1 HRL.out (rc_info HQW.out) (rc_one _) ?_); intro w2 hU2; have hT2 := hU2.out.at_; have hZ2 := (hU2.out.other _ hn1).trans hZ1a; have HB2 := Lib.hid (hU2.out.below HB1.out hl1); clear hz1 hZ1a)
        | (with_reducible refine wpList_load_rows_g (by kernel_rfl) 61 (.tmp 5) rfl w1.heap.size 0 q.cells q.cells 61 (0, 0) _ rfl hT2 id_at Tryd.underlying61 rfl (rc_info HQW.out) ?_)
        | (with_reducible refine wpList_load_rows_g (by kernel_rfl) 61 (.tmp 3) rfl w.heap.size 0 q.cells q.cells 61 (0, 0) _ rfl hZ2 id_at Tryd.underlying61 rfl (rc_info HQW.out) ?_)
        | ((with_reducible refine wpList_bin_g (by kernel_rfl) .neq 61 61 (.tmp 25) (.tmp 26) rfl (.agg q.cells.toArray) (.agg q.cells.toArray) (.bool !(decide (q = q))) rfl rfl (rc_eqG _ _ _ _ _ _) (rc_neq HQW.out HQW.out _) ?_); rw [decide_eq_true (rfl : q = q)]))
      have HL2 := Lib.hid (HL.out.below HB2.out)
      refine (lput_any base l sv rs (cnt rs) q wh _ HL2.out HQW.out hn HWH.out (Nat.le_trans hbs HB2.out.size)).mono ?_
      rintro e w4 ⟨rfl, ⟨sv4, hL4, hnw4⟩, hT4⟩
      have HL4 : Hid (LgAt w4 base l sv4 nrs (cnt nrs)) := show LgAt _ _ _ _ _ _ from by rw [HQ.out.2.1, ← HQ.out.2.2]; exact hL4
      have HNW : Hid (OwnNew w sv sv4) := show OwnNew _ _ _ from fun k hk => (hnw4 k hk).imp id (fun h => Nat.le_trans HB2.out.size h)
      have HT4 := Lib.hid (LgTurn.after HB2.out hT4)
      clear hL4 hnw4 hT4 hT2 hZ2 hU2 HL2
      go_wp2_with fail
      go_ret
      exact ⟨by rw [HQ.out.1]; rfl, ⟨sv4, HL4.out, HNW.out⟩, HT4.out⟩
    · have HQ := Lib.hid (HBAD.out (fun h => hqr h.2))
      have hd2 : decide (q = r) = false := decide_eq_false hqr
      subst he
      clear HOK HBAD hqr
      go_enter Tryd.func46, Tryd.ntmps46
      go_wp2_with fail
      refine HMK.out.mono ?_
      rintro e w1 ⟨rfl, hb1⟩
      have hZ1 := keep_row hb1 hg0
      have hZ1a := (Below.heap_alloc w1 (.cells Tryd.zeroCells61 61) _ (block_lt hZ1)).trans hZ1
      have hz1 : (w1.alloc (.cells Tryd.zeroCells61 61)).heap[w1.heap.size]? = some (.cells zlRc.toArray 61 (0, 0)) := heap_alloc_new w1 _
      have HB1 := Lib.hid (bw_alloc (bw_call HB0.out hb1) (.cells Tryd.zeroCells61 61))
      have hn1 : w.heap.size ≠ w1.heap.size := Nat.ne_of_lt (block_lt hZ1)
      have hl1 : w.heap.size ≤ w1.heap.size := Nat.le_of_lt (block_lt hZ1)
      clear hb1 hg0 hZ1 HMK HB0 c1 c2 c3
      go_wp2_with (first
        | ((with_reducible refine wpList_store_whole rfl 61 (.tmp 5) (.tmp 19) rfl w1.heap.size q.cells zlRc 61 rfl rfl hz1 HRL.out (rc_info HQW.out) (rc_one _) ?_); intro w2 hU2; have hT2 := hU2.out.at_; have hZ2 := (hU2.out.other _ hn1).trans hZ1a; have HB2 := Lib.hid (hU2.out.below HB1.out hl1); clear hz1 hZ1a)
        | (with_reducible refine wpList_load_rows_g (by kernel_rfl) 61 (.tmp 5) rfl w1.heap.size 0 q.cells q.cells 61 (0, 0) _ rfl hT2 id_at Tryd.underlying61 rfl (rc_info HQW.out) ?_)
        | (with_reducible refine wpList_load_rows_g (by kernel_rfl) 61 (.tmp 3) rfl w.heap.size 0 r.cells r.cells 61 (0, 0) _ rfl hZ2 id_at Tryd.underlying61 rfl (rc_info HRW.out) ?_)
        | ((with_reducible refine wpList_bin_g (by kernel_rfl) .neq 61 61 (.tmp 25) (.tmp 26) rfl (.agg q.cells.toArray) (.agg r.cells.toArray) (.bool !(decide (q = r))) rfl rfl (rc_eqG _ _ _ _ _ _) (rc_neq HQW.out HRW.out _) ?_); rw [hd2]))
      go_ret
      exact ⟨by rw [HQ.out.1]; rfl, ⟨sv, by rw [HQ.out.2]; exact HL.out.below HB2.out, OwnNew.refl _ _⟩, LgTurn.of l sv HB2.out⟩
  · have hd : (er != 0) = true := by simpa using he
    have HQ := Lib.hid (HBAD.out (fun h => he h.1))
    clear HOK HBAD he
    go_enter Tryd.func46, Tryd.ntmps46
    go_wp2_with fail
    refine HMK.out.mono ?_
    rintro e w1 ⟨rfl, hb1⟩
    have hz1 : (w1.alloc (.cells Tryd.zeroCells61 61)).heap[w1.heap.size]? = some (.cells zlRc.toArray 61 (0, 0)) := heap_alloc_new w1 _
    have HB1 := Lib.hid (bw_alloc (bw_call HB0.out hb1) (.cells Tryd.zeroCells61 61))
    have hl1 : w.heap.size ≤ w1.heap.size := (bw_call HB0.out hb1).size
    clear hb1 hg0 HMK HB0 c1 c2 c3
    go_wp2_with ((with_reducible refine wpList_store_whole rfl 61 (.tmp 5) (.tmp 19) rfl w1.heap.size q.cells zlRc 61 rfl rfl hz1 HRL.out (rc_info HQW.out) (rc_one _) ?_); intro w2 hU2; have HB2 := Lib.hid (hU2.out.below HB1.out hl1); clear hz1)
    go_ret
    exact ⟨by rw [HQ.out.1]; rfl, ⟨sv, by rw [HQ.out.2]; exact HL.out.below HB2.out, OwnNew.refl _ _⟩, LgTurn.of l sv HB2.out⟩
theorem load_nil (r : RC) (w : World) : Calls Tryd.prog 46 #[.pointer none, .agg r.cells.toArray] w fun e w' => e = .returned (.int .i64 1) ∧ Below w.heap.size w w' := by
  have HB0 := Lib.hid (bw_alloc (Below.refl w.heap.size w) (.cells r.cells.toArray 61))
  go_enter Tryd.func46, Tryd.ntmps46
  go_wp2_with fail
  go_ret
  exact ⟨rfl, HB0.out⟩
end Go.Proofs.YtckfdmkjeocadaaDoor
