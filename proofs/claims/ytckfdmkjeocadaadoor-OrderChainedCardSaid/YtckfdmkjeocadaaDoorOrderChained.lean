/- cavalcadelaw19.OrderChained: what the call does (printed by mkchained.py). -/
import Derived.Test.YtckfdmkjeocadaaDoorMade
import Derived.Test.YtckfdmkjeocadaaDoorRLink
import Derived.Test.YtckfdmkjeocadaaDoorRRead
import Derived.Test.YtckfdmkjeocadaaDoorRSign
import Derived.Deep.DeepCutAuto
import Derived.Deep.OwnRows
namespace Go.Proofs.YtckfdmkjeocadaaDoor
open Go.RowKit
set_option maxHeartbeats 8000000
set_option maxRecDepth 4000
/-- what the law holds at a round's head -/
structure ChAt (w W : World) (B l : Nat) (sl va : Value) (pb nb : Nat) (rs : List RC) (h : List UInt8) (nx : List Int) : Prop where
  b : Below w.heap.size w W
  lg : LgAt W (l + 1) l sl rs (cnt rs)
  own : W.ownsRow B 61 68 va rs.length (rcells rs)
  p : W.heap[pb]? = some (.cells (u8s h).toArray 23 (0, 0))
  n : W.heap[nb]? = some (.cells (nums64 nx).toArray 3 (0, 0))
  wp : w.heap.size ≤ pb ∧ w.heap.size ≤ nb ∧ pb ≠ nb
  pl : pb ≠ l ∧ sl.ownBlock ≠ some pb ∧ va.ownBlock ≠ some pb
  nl : nb ≠ l ∧ sl.ownBlock ≠ some nb ∧ va.ownBlock ≠ some nb
theorem own_other {W W' : World} {base n size : Nat} {e : TypeId} {v : Value} {xs : List Value} (h : W.ownsRow base e size v n xs) (hb : ∀ k, v.ownBlock = some k → W'.heap[k]? = W.heap[k]?) : W'.ownsRow base e size v n xs := by
  refine ⟨h.1, ?_⟩
  rcases h.2 with h2 | ⟨g, cap, cur, h1, h2, h3, r⟩
  · exact .inl h2
  · exact .inr ⟨g, cap, cur, h1, h2, (hb g (by rw [h1]; rfl)).trans h3, r⟩
theorem LgAt.other {W W' : World} {base l : Nat} {sv : Value} {rs : List RC} {nx : List Int} (h : LgAt W base l sv rs nx) (hl : W'.heap[l]? = W.heap[l]?) (hb : ∀ k, sv.ownBlock = some k → W'.heap[k]? = W.heap[k]?) : LgAt W' base l sv rs nx :=
  ⟨h.len, hl.trans h.row, own_other h.own hb, h.wf, h.lt, h.small, h.nxb⟩
theorem ChAt.next {w W W' : World} {B l : Nat} {sl va : Value} {pb nb : Nat} {rs : List RC} {h : List UInt8} {nx : List Int} (c : ChAt w W B l sl va pb nb rs h nx) (hb : Below W.heap.size W W') : ChAt w W' B l sl va pb nb rs h nx :=
  ⟨bw_call c.b hb, c.lg.below hb, own_below c.own hb (Nat.le_refl _), keep_row hb c.p, keep_row hb c.n, c.wp, c.pl, c.nl⟩
theorem ChAt.setP {w W W' : World} {B l : Nat} {sl va : Value} {pb nb : Nat} {rs : List RC} {h h' : List UInt8} {nx : List Int} (c : ChAt w W B l sl va pb nb rs h nx) (hU : Upd W W' pb (.cells (u8s h').toArray 23 (0, 0))) : ChAt w W' B l sl va pb nb rs h' nx :=
  ⟨hU.below c.b c.wp.1, c.lg.other (hU.other _ (Ne.symm c.pl.1)) (fun k hk => hU.other _ (fun e => c.pl.2.1 (by rw [← e]; exact hk))), own_other c.own (fun k hk => hU.other _ (fun e => c.pl.2.2 (by rw [← e]; exact hk))), hU.at_, (hU.other _ (Ne.symm c.wp.2.2)).trans c.n, c.wp, c.pl, c.nl⟩
theorem ChAt.setN {w W : World} {B l : Nat} {sl va : Value} {pb nb : Nat} {rs : List RC} {h : List UInt8} {nx : List Int} (c : ChAt w W B l sl va pb nb rs h nx) (i : Nat) (x : Int) : ChAt w (W.setCell ⟨nb, i, none⟩ (.int .i64 x)) B l sl va pb nb rs h (nx.set i x) := by
  have hO : ∀ k, k ≠ nb → (W.setCell ⟨nb, i, none⟩ (.int .i64 x)).heap[k]? = W.heap[k]? := fun k hk => heap_setCell_other _ _ _ _ hk
  refine ⟨c.b.setCell (p := ⟨nb, i, none⟩) c.wp.2.1 _, c.lg.other (hO _ (Ne.symm c.nl.1)) (fun k hk => hO _ (fun e => c.nl.2.1 (by rw [← e]; exact hk))), own_other c.own (fun k hk => hO _ (fun e => c.nl.2.2 (by rw [← e]; exact hk))), (hO _ c.wp.2.2).trans c.p, ?_, c.wp, c.pl, c.nl⟩
  have h1 := set_row (i := i) c.n (.int .i64 x)
  rw [show (nums64 nx).set i (.int .i64 x) = nums64 (nx.set i x) by unfold nums64; rw [← List.map_set]] at h1
  exact h1
theorem cnt_length : ∀ (rs : List RC) (nx : List Int), (rs.foldl cnt1 nx).length = nx.length
  | [], _ => rfl
  | r :: rs, nx => by
    rw [List.foldl_cons, cnt_length rs]
    unfold cnt1 bump
    split
    · split
      · split <;> simp
      · rfl
    · rfl
theorem head_take {rs : List RC} {j : Nat} (h : j < rs.length) : headOf (rs.take (j + 1)) = (rs[j]'h).hash := by
  unfold headOf
  have hl : (rs.take (j + 1)).length - 1 = j := by rw [List.length_take]; omega
  have hg : (rs.take (j + 1))[j]? = some (rs[j]'h) := by rw [List.getElem?_take_of_lt (by omega), List.getElem?_eq_getElem h]
  rw [hl, hg]
theorem step_facts {rs : List RC} (hc : Chain rs) {j : Nat} (hj : j < rs.length) (r : RC) (hr : r = rs[j]'hj) :
    linkRes (headOf (rs.take j)) j r.kind r.time r.body = r ∧ linkErr (headOf (rs.take j)) j r.kind r.time r.body = 0 ∧ (∀ p, 0 < j → rs[j - 1]? = some p → p.time ≤ r.time) ∧ headOf (rs.take (j + 1)) = r.hash ∧
    ((r.kind = 1 ∧ ∃ t, rdTx r.body = .ok t ∧ t.signed = 0 ∧ t.nonce = (cnt (rs.take j)).getD t.frm.toNat 0 ∧ cnt (rs.take (j + 1)) = (cnt (rs.take j)).set t.frm.toNat ((cnt (rs.take j)).getD t.frm.toNat 0 + 1)) ∨ (r.kind ≠ 1 ∧ cnt (rs.take (j + 1)) = cnt (rs.take j))) := by
  have hs := hc j hj
  rw [← hr] at hs
  have hlen : (rs.take j).length = j := by rw [List.length_take]; omega
  obtain ⟨h1, h2, h3, h4⟩ := mk_ok hs.1
  rw [hlen] at h2 h3
  have hsn : cnt (rs.take (j + 1)) = cnt1 (cnt (rs.take j)) r := by rw [List.take_succ_eq_append_getElem hj, ← hr, cnt_snoc]
  refine ⟨?_, by rw [linkErr, if_pos h2], fun p h0 hp => ?_, by rw [head_take hj, hr], ?_⟩
  · rw [linkRes, if_pos h2, ← h3, hs.2]
  · have h5 := (from_ok h1).1
    unfold isLate at h5
    rw [hlen, List.getElem?_take_of_lt (by omega), hp] at h5
    have h6 : ¬ (r.time < p.time) := of_decide_eq_false h5
    omega
  · rcases (from_ok h1).2 with ⟨hk, t, ht, hsg, hno, _⟩ | ⟨hk, _⟩
    · refine .inl ⟨hk, t, ht, hsg, hno, ?_⟩
      rw [hsn, cnt1, if_pos hk, ht]
      show bump _ t.frm = _
      rw [bump, if_pos (frm_of ht).1]
    · exact .inr ⟨hk, by rw [hsn, cnt1, if_neg hk]⟩
theorem cnt_bd : ∀ (rs : List RC) (nx : List Int) (m : Int), (∀ x ∈ nx, 0 ≤ x ∧ x ≤ m) → ∀ x ∈ rs.foldl cnt1 nx, 0 ≤ x ∧ x ≤ m + rs.length
  | [], nx, m, h, x, hx => by have := h x hx; simp only [List.length_nil]; omega
  | r :: rs, nx, m, h, x, hx => by
    rw [List.foldl_cons] at hx
    have h2 : ∀ y ∈ cnt1 nx r, 0 ≤ y ∧ y ≤ m + 1 := fun y hy => by
      have h3 : ∀ k : Nat, 0 ≤ nx.getD k 0 + 1 ∧ (k < nx.length → nx.getD k 0 + 1 ≤ m + 1) := fun k => by
        rw [List.getD_eq_getElem?_getD]
        by_cases hk : k < nx.length
        · rw [List.getElem?_eq_getElem hk]
          have := h _ (List.getElem_mem hk)
          simp only [Option.getD_some]
          omega
        · rw [List.getElem?_eq_none (by omega)]
          exact ⟨by decide, fun h => absurd h hk⟩
      have h5 : ∀ y ∈ nx, 0 ≤ y ∧ y ≤ m + 1 := fun y hy => by have := h y hy; omega
      unfold cnt1 at hy
      split at hy
      · split at hy
        · rename_i t _
          unfold bump at hy
          split at hy
          · obtain ⟨i, hi, rfl⟩ := List.mem_iff_getElem.1 hy
            rw [List.length_set] at hi
            rw [List.getElem_set]
            split
            · rename_i he
              exact ⟨(h3 _).1, (h3 _).2 (by omega)⟩
            · exact h5 _ (List.getElem_mem hi)
          · exact h5 y hy
        · exact h5 y hy
      · exact h5 y hy
    have h4 := cnt_bd rs (cnt1 nx r) (m + 1) h2 x hx
    simp only [List.length_cons]
    omega
/-- a quiet walk behind a name: the kernel does not open it -/
structure WQ (P : Program) (ops : Array Oper) (C : World → Prop) (Q : Act → Prop) (l : List Oper) (a : Act) : Prop where
  out : wpQuiet P ops C Q l a
section
variable {P : Program} {ops : Array Oper} {C : World → Prop} {Q : Act → Prop} {a : Act} {o : Oper} {rest : List Oper}
theorem WQ.gen {v : Value} (hw : Region.wanted o (yielded ops a.tmps) = true) (hr : ∀ w, C w → (execOp a.eval o).run P w = .ok (.value v) w) (h : WQ P ops C Q rest (a.put o.dst v)) : WQ P ops C Q (o :: rest) a := ⟨wq_gen hw hr h.out⟩
theorem WQ.skip (hw : Region.wanted o (yielded ops a.tmps) = false) (h : WQ P ops C Q rest (a.put o.dst undef)) : WQ P ops C Q (o :: rest) a := ⟨wq_skip hw h.out⟩
theorem WQ.call {v : Value} {f : FuncId} {args : Array Value} (hw : Region.wanted o (yielded ops a.tmps) = true) (hr : ∀ w, C w → (execOp a.eval o).run P w = .ok (.enter f args) w)
    (hc : ∀ w, C w → Calls P f args w fun e w' => e = .returned v ∧ C w') (h : WQ P ops C Q rest (a.put o.dst v)) : WQ P ops C Q (o :: rest) a := ⟨wq_call hw hr hc h.out⟩
theorem WQ.load (hw : Region.wanted o (yielded ops a.tmps) = true) (ty : TypeId) (x : Operand) (ho : o.op = .load ty x) (b f : Nat) (cs : List Value) (d : TypeDesc) (hx : a.eval x = .pointer (some ⟨b, f, none⟩)) (hC : ∀ w, C w → w.rangeAt b f cs)
    (hu : P.underlying ty = some d) (hd : d.isRow = true) (hi : (P.info? ty).map (·.size) = some cs.length) (h : WQ P ops C Q rest (a.put o.dst (.agg cs.toArray))) : WQ P ops C Q (o :: rest) a := ⟨wq_load hw ty x ho b f cs d hx hC hu hd hi h.out⟩
theorem WQ.bin (hw : Region.wanted o (yielded ops a.tmps) = true) (op : BinOp) (t t2 : TypeId) (x y : Operand) (ho : o.op = .binOp op t x y t2) (u v r : Value) (hx : a.eval x = u) (hy : a.eval y = v) (hg : ∀ w, (eqGuard op t x y u v).run P w = .ok () w)
    (hrun : ∀ w, (binOp op t u v).run P w = .ok r w) (h : WQ P ops C Q rest (a.put o.dst r)) : WQ P ops C Q (o :: rest) a := ⟨wq_bin hw op t t2 x y ho u v r hx hy hg hrun h.out⟩
theorem WQ.nil (h : Q a) : WQ P ops C Q [] a := ⟨h⟩
theorem WQ.eq {l : List Oper} {a' : Act} (ha : a = a') (h : WQ P ops C Q l a') : WQ P ops C Q l a := ha ▸ h
end
theorem wp_region_classW {P : Program} {id : Nat} {Q : Exit → Act → World → Prop} {a : Act} {w : World} {l : List Oper} (C : World → Prop) (hm : P.follows .mixedOrders = true) (hB : Region.lexB .any l.toArray = true) (hC : C w.drew)
    (h : WQ P l.toArray C (fun a' => ∀ w', C w' → Q .normal a' w') l a) : (Code.region id l.toArray true).wp P Q a w := wp_region_class C hm hB hC h.out
theorem made64 : madeCells #[Value.int .i64 0] 64 = (nums64 zn64).toArray := by
  apply Array.ext'
  simp only [madeCells, nums64, Array.toList_map, Array.toList_range]
  rfl
theorem rc_alloc (w : World) : (Instr.alloc 61 true (.tuple #[])).run Tryd.prog w = .ok (.pointer (some ⟨w.heap.size, 0, none⟩)) (w.alloc (.cells zlRc.toArray 61)) := by
  unfold Instr.alloc
  simp only [Sem.run_bind, rc_zero, Result.andThen_ok]
  rfl
theorem orderChained_any (acts : List ACT) (v : Value) (w : World) (hA : ActsAt w v acts) (hwf : ∀ a ∈ acts, a.wf) (hR : RoundsAt w) :
    Calls Tryd.prog 9 #[v] w fun e w' => e = .returned (.bool true) ∧ Below w.heap.size w w' := by
  have HMD := Lib.hid (made_any acts v w hA hwf hR)
  have HR := Lib.hid hR
  clear hA hwf hR
  go_enter Tryd.func9, Tryd.ntmps9
  go_wp2_with fail
  refine HMD.out.mono ?_
  rintro e w1 ⟨sl, rs, rfl, hL1, hC, h40, hB1⟩
  have HC := Lib.hid hC
  have HL1 := Lib.hid hL1
  have HB1 := Lib.hid hB1
  clear hC hL1 hB1 HMD
  go_wp2_with fail
  refine (awake19_any _ (HR.out.below HB1.out HR.out.1)).mono ?_
  rintro e w2 ⟨rfl, hb2⟩
  have HL2 := Lib.hid (HL1.out.below hb2)
  have HB2 := Lib.hid (bw_call HB1.out hb2)
  clear hb2 HL1
  go_wp2_with fail
  refine (lfrom_any _ _ _ rs _ 0 _ HL2.out (by have := HL2.out.lts.1; omega)).mono ?_
  rintro e w3 ⟨⟨va, rfl, hO3⟩, hb3⟩
  rw [from_zero] at hO3
  have hL3 := HL2.out.below hb3
  have hB3 := bw_call HB2.out hb3
  have HWF := Lib.hid hL3.wf
  have HO3 := Lib.hid hO3
  obtain ⟨qa, ca, rfl, hqa⟩ := own_rcs2 hO3
  have HQA := Lib.hid hqa
  obtain ⟨n, hn⟩ : ∃ n, n = rs.length := ⟨_, rfl⟩
  have HON : Hid (w3.ownsRow w2.heap.size 61 68 (.slice qa n ca) rs.length (rcells rs)) := show World.ownsRow _ _ _ _ _ _ _ from by rw [hn]; exact hO3
  rw [← hn] at h40 ⊢
  have HN := Lib.hid hn
  have hz4 : (w3.alloc (.cells zl32.toArray 23)).heap[w3.heap.size]? = some (.cells zl32.toArray 23 (0, 0)) := heap_alloc_new _ _
  clear hn hqa hO3 HO3
  go_wp2_with (first
    | (with_reducible refine wpList_build rfl 23 [] rfl [] (.agg zl32.toArray) rfl (hash0_build _) ?_)
    | ((with_reducible refine wpList_store_whole rfl 23 (.tmp 5) (.tmp 22) rfl w3.heap.size zl32 zl32 23 rfl rfl hz4 rfl (by rw [zl32_eq]; exact hash_info z32_length) zl32_one ?_); intro w4 hU4)
    | (refine wpList_make_row _ rfl _ _ 59 rfl 3 _ (.int .i64 0) Tryd.underlying59 int_info rfl rfl rfl .i64 .i64 64 rfl rfl (by decide) (by decide) ?_))
  obtain ⟨pb, hpb⟩ : ∃ x, x = w3.heap.size := ⟨_, rfl⟩
  obtain ⟨nb, hnb⟩ : ∃ x, x = w4.heap.size := ⟨_, rfl⟩
  have hCh : ChAt w (w4.alloc (.cells (madeCells #[.int .i64 0] 64) 3)) w2.heap.size w.heap.size sl (.slice qa n ca) pb nb rs z32 zn64 := by
    have hl3 := hL3.lts
    have ho3 := HON.out.lt
    have hs4 : w4.heap.size = w3.heap.size + 1 := by rw [hU4.out.size]; simp
    have hk3 := hB3.size
    have hUb := hU4.out.below (bw_alloc hB3 (.cells zl32.toArray 23)) hk3
    have hA : Below w4.heap.size w4 (w4.alloc (.cells (madeCells #[.int .i64 0] 64) 3)) := bw_alloc (Below.refl _ _) _
    refine ⟨bw_alloc hUb _, ((hL3.below (bw_alloc (Below.refl _ _) (.cells zl32.toArray 23))).upd hU4.out (by omega) (fun h => by have := hl3.2 _ h; omega)).below hA, own_below (own_other (own_below HON.out (bw_alloc (Below.refl w3.heap.size w3) (.cells zl32.toArray 23)) (Nat.le_refl _)) (fun k hk => hU4.out.other _ (by have := ho3 k hk; omega))) hA (Nat.le_refl _), ?_, ?_, ⟨by omega, by omega, by omega⟩, ⟨by omega, fun h => by have := hl3.2 _ h; omega, fun h => by have := ho3 _ h; omega⟩, ⟨by omega, fun h => by have := hl3.2 _ h; omega, fun h => by have := ho3 _ h; omega⟩⟩
    · rw [hpb, ← zl32_eq]; exact keep_row hA hU4.out.at_
    · rw [hnb, ← made64]; exact heap_alloc_new w4 _
  have HCh := Lib.hid hCh
  clear hCh hL3 hB3 hb3 hz4 hU4 HON HQA
  rw [← hnb, ← hpb]
  generalize w4.alloc (.cells (madeCells #[.int .i64 0] 64) 3) = W5 at *
  clear hnb hpb
  go_wp2_with fail
  go_loopw [7] (fun i wr => ∃ j : Nat, j ≤ n ∧ i = .int .i64 j ∧ Hid (ChAt w wr w2.heap.size w.heap.size sl (.slice qa n ca) pb nb rs (headOf (rs.take j)) (cnt (rs.take j)))) (fun i _ => n - (intOf i).toNat)
  case atStart => exact ⟨0, by omega, rfl, HCh⟩
  case round =>
    obtain ⟨j, hj, rfl, HC0⟩ := hrel
    by_cases hlt : j < n
    · have hl2 : j < rs.length := by have := HN.out; omega
      obtain ⟨q9, c9, e9, hq9⟩ := own_rcs2 HC0.out.own
      injection e9 with e91 e92 e93
      subst e91
      rcases hq9 with h | ⟨g, rfl, hrow, -, hgl, -⟩
      · exact absurd hl2 (by rw [h]; simp)
      obtain ⟨cur, fr, hg, hat⟩ := hrow.one HWF.out j hl2
      obtain ⟨r, hr⟩ : ∃ r, r = rs[j]'hl2 := ⟨_, rfl⟩
      have HSF := Lib.hid (step_facts HC.out hl2 r hr)
      rw [← hr] at hat
      have HRW : Hid r.wf := show _ from by rw [hr]; exact HWF.out _ (List.getElem_mem hl2)
      have hat' : ∀ x v, r.cells[x]? = some v → cur[j * 68 + x]? = some v := fun x v hv => by have := hat x v hv; rw [Nat.zero_add] at this; exact this
      have HRG : Hid (wr.rangeAt g (j * 68) r.cells) := show World.rangeAt _ _ _ _ from range_row hg hat'
      obtain ⟨ptm, hptm⟩ : ∃ t, t = (rs.getD (j - 1) RC.zero).time := ⟨_, rfl⟩
      have HPT : Hid (0 < j → wr.cell? ⟨g, (j - 1) * 68 + 2, none⟩ = some (.int .i64 ptm) ∧ ptm ≤ r.time) := show _ → _ from fun h0 => by
        obtain ⟨cur2, fr2, hg2, hat2⟩ := hrow.one HWF.out (j - 1) (by omega)
        have h1 := hat2 2 _ (show (rs[j - 1]'(by omega)).cells[2]? = some _ from rfl)
        rw [Nat.zero_add] at h1
        refine ⟨?_, ?_⟩
        · rw [cell_of_row wr g _ _ _ _ hg2, List.getElem?_toArray, h1, hptm, List.getD_eq_getElem?_getD, List.getElem?_eq_getElem (by omega)]
          rfl
        · rw [hptm, List.getD_eq_getElem?_getD, List.getElem?_eq_getElem (show j - 1 < rs.length by omega)]
          exact HSF.out.2.2.1 _ h0 (List.getElem?_eq_getElem _)
      obtain ⟨h, hh⟩ : ∃ h, h = headOf (rs.take j) := ⟨_, rfl⟩
      obtain ⟨nx, hnx⟩ : ∃ x, x = cnt (rs.take j) := ⟨_, rfl⟩
      have HHL : Hid (h.length = 32) := show _ = _ by rw [hh]; exact headOf_length (fun x hx => HWF.out x (List.mem_of_mem_take hx))
      have HNL : Hid (nx.length = 64) := show _ = _ by rw [hnx]; exact cnt_length _ _
      have HNBD : Hid (∀ x ∈ nx, 0 ≤ x ∧ x ≤ 1000) := show ∀ x ∈ _, _ from fun x hx => by
        have h1 := cnt_bd (rs.take j) zn64 0 (by decide) x (by rw [hnx] at hx; exact hx)
        rw [List.length_take] at h1
        omega
      rw [← hh, ← hnx] at HC0 HSF
      have HLK : Hid (∀ W, Calls Tryd.prog 42 #[.agg (u8s h).toArray, .int .i64 j, .int .i64 r.kind, .int .i64 r.time, .string r.body] W fun e w' => e = .returned (.tuple #[.agg r.cells.toArray, .int .i64 0]) ∧ Below W.heap.size W w') := show ∀ W, _ from fun W => by
        have h1 := rlink_any h j r.kind r.time r.body W ⟨⟨by show _ ≤ (j : Int); omega, by show (j : Int) ≤ _; omega⟩, HRW.out.kind, HRW.out.time, HRW.out.body, HHL.out, rfl⟩
        rw [HSF.out.1, HSF.out.2.1] at h1
        exact h1
      have HRL : Hid (r.cells.length = zlRc.length) := show _ = _ from rc_len HRW.out
      have KEEP : Hid (∀ W', Below wr.heap.size wr W' → (W'.rangeAt pb 0 (u8s h) ∧ W'.cell? ⟨g, j * 68 + 1, none⟩ = some (.int .i64 r.kind) ∧ W'.cell? ⟨g, j * 68 + 2, none⟩ = some (.int .i64 r.time) ∧ W'.cell? ⟨g, j * 68 + 3, none⟩ = some (.string r.body))) := show ∀ W', _ from fun W' hb => ⟨range_row (keep_row hb HC0.out.p) id_at, range_below HRG.out hb hgl 1 _ rfl, range_below HRG.out hb hgl 2 _ rfl, range_below HRG.out hb hgl 3 _ rfl⟩
      have HGL := Lib.hid hgl
      have hu : Tryd.prog.underlying 23 = some _ := Tryd.underlying23
      have f0 : (0 : Int) ≤ j := by omega
      have f1 : (j : Int) < n := by omega
      clear hrow hgl hg hat hat' hr hh hnx hptm hl2 e92 e93
      go_wp2_with fail
      go_cut [8, 9] (fun p8 v9 wx => ∃ b8, p8 = .pointer (some ⟨b8, 0, none⟩) ∧ v9 = .int .i64 0 ∧ wr.heap.size ≤ b8 ∧ Hid (Below wr.heap.size wr wx) ∧ Hid (wx.heap[b8]? = some (.cells r.cells.toArray 61 (0, 0))))
      case first =>
        have hBd : Below wr.heap.size wr wr.drew := (Below.refl _ _).drew
        refine wp_region_held_drew (S := fun W' => W'.rangeAt pb 0 (u8s h) ∧ W'.cell? ⟨g, j * 68 + 1, none⟩ = some (.int .i64 r.kind) ∧ W'.cell? ⟨g, j * 68 + 2, none⟩ = some (.int .i64 r.time) ∧ W'.cell? ⟨g, j * 68 + 3, none⟩ = some (.string r.body)) (by kernel_rfl) (KEEP.out _ hBd) (fun hHeld => ?_)
        refine rg_row (i := 0) rfl (by kernel_rfl) (by kernel_rfl) (by kernel_rfl) (fun _ _ _ _ h => h) rfl (by rfl) 23 (.tmp 5) rfl pb 0 (u8s h) rfl (fun W h => h.1) hu rfl (hash_info HHL.out) (by assumption) ?_
        try simp only [Act.put, List.setIfInBounds_toArray, List.set_cons_zero, List.set_cons_succ]
        refine rg_gen (i := 1) (v := ?_) rfl (by kernel_rfl) (by kernel_rfl) (by kernel_rfl) (fun _ _ _ h => h) rfl (by rfl) ?_ (by assumption) ?_
        rotate_left
        · intro w hSw
          try dsimp only at hSw
          go_simp
          try with_reducible rfl
        try simp only [Act.put, List.setIfInBounds_toArray, List.set_cons_zero, List.set_cons_succ]
        refine rg_gen (i := 2) (v := ?_) rfl (by kernel_rfl) (by kernel_rfl) (by kernel_rfl) (fun _ _ _ h => h) rfl (by rfl) ?_ (by assumption) ?_
        rotate_left
        · intro w hSw
          try dsimp only at hSw
          go_simp
          try with_reducible rfl
        try simp only [Act.put, List.setIfInBounds_toArray, List.set_cons_zero, List.set_cons_succ]
        refine rg_gen (i := 3) (v := ?_) rfl (by kernel_rfl) (by kernel_rfl) (by kernel_rfl) (fun _ _ _ h => h) rfl (by rfl) ?_ (by assumption) ?_
        rotate_left
        · intro w hSw
          try dsimp only at hSw
          go_simp
          try with_reducible rfl
        try simp only [Act.put, List.setIfInBounds_toArray, List.set_cons_zero, List.set_cons_succ]
        refine rg_gen (i := 4) (v := ?_) rfl (by kernel_rfl) (by kernel_rfl) (by kernel_rfl) (fun _ _ _ h => h) rfl (by rfl) ?_ (by assumption) ?_
        rotate_left
        · intro w hSw
          try dsimp only at hSw
          go_simp
          try with_reducible rfl
        try simp only [Act.put, List.setIfInBounds_toArray, List.set_cons_zero, List.set_cons_succ]
        refine rg_gen (i := 5) (v := ?_) rfl (by kernel_rfl) (by kernel_rfl) (by kernel_rfl) (fun _ _ _ h => h) rfl (by rfl) ?_ (by assumption) ?_
        rotate_left
        · intro w hSw
          try dsimp only at hSw
          go_simp
          try with_reducible rfl
        try simp only [Act.put, List.setIfInBounds_toArray, List.set_cons_zero, List.set_cons_succ]
        refine rg_gen (i := 6) (v := ?_) rfl (by kernel_rfl) (by kernel_rfl) (by kernel_rfl) (fun _ _ _ h => h) rfl (by rfl) ?_ (by assumption) ?_
        rotate_left
        · intro w hSw
          try dsimp only at hSw
          go_simp
          try with_reducible rfl
        try simp only [Act.put, List.setIfInBounds_toArray, List.set_cons_zero, List.set_cons_succ]
        refine rg_gen (i := 7) (v := ?_) rfl (by kernel_rfl) (by kernel_rfl) (by kernel_rfl) (fun _ _ _ h => h) rfl (by rfl) ?_ (by assumption) ?_
        rotate_left
        · intro w hSw
          try dsimp only at hSw
          go_simp
          try with_reducible rfl
        try simp only [Act.put, List.setIfInBounds_toArray, List.set_cons_zero, List.set_cons_succ]
        refine rg_gen (i := 8) (v := ?_) rfl (by kernel_rfl) (by kernel_rfl) (by kernel_rfl) (fun _ _ _ h => h) rfl (by rfl) ?_ (by assumption) ?_
        rotate_left
        · intro w hSw
          try dsimp only at hSw
          go_simp
          try with_reducible rfl
        try simp only [Act.put, List.setIfInBounds_toArray, List.set_cons_zero, List.set_cons_succ]
        refine rg_gen (i := 9) (v := ?_) rfl (by kernel_rfl) (by kernel_rfl) (by kernel_rfl) (fun _ _ _ h => h) rfl (by rfl) ?_ (by assumption) ?_
        rotate_left
        · intro w hSw
          try dsimp only at hSw
          go_simp
          try with_reducible rfl
        try simp only [Act.put, List.setIfInBounds_toArray, List.set_cons_zero, List.set_cons_succ]
        refine rg_gen (i := 10) (v := ?_) rfl (by kernel_rfl) (by kernel_rfl) (by kernel_rfl) (fun _ _ _ h => h) rfl (by rfl) ?_ (by assumption) ?_
        rotate_left
        · intro w hSw
          try dsimp only at hSw
          go_simp
          try with_reducible rfl
        try simp only [Act.put, List.setIfInBounds_toArray, List.set_cons_zero, List.set_cons_succ]
        refine rg_gen (i := 11) (v := ?_) rfl (by kernel_rfl) (by kernel_rfl) (by kernel_rfl) (fun _ _ _ h => h) rfl (by rfl) ?_ (by assumption) ?_
        rotate_left
        · intro w hSw
          try dsimp only at hSw
          go_simp
          try with_reducible rfl
        try simp only [Act.put, List.setIfInBounds_toArray, List.set_cons_zero, List.set_cons_succ]
        refine rg_gen (i := 12) (v := ?_) rfl (by kernel_rfl) (by kernel_rfl) (by kernel_rfl) (fun _ _ _ h => h) rfl (by rfl) ?_ (by assumption) ?_
        rotate_left
        · intro w hSw
          try dsimp only at hSw
          go_simp
          try with_reducible rfl
        try simp only [Act.put, List.setIfInBounds_toArray, List.set_cons_zero, List.set_cons_succ]
        refine rg_gen (i := 13) (v := ?_) rfl (by kernel_rfl) (by kernel_rfl) (by kernel_rfl) (fun _ _ _ h => h) rfl (by rfl) ?_ (by assumption) ?_
        rotate_left
        · intro w hSw
          try dsimp only at hSw
          go_simp
          try with_reducible rfl
        try simp only [Act.put, List.setIfInBounds_toArray, List.set_cons_zero, List.set_cons_succ]
        refine rg_gen (i := 14) (v := ?_) rfl (by kernel_rfl) (by kernel_rfl) (by kernel_rfl) (fun _ _ _ h => h) rfl (by rfl) ?_ (by assumption) ?_
        rotate_left
        · intro w hSw
          try dsimp only at hSw
          go_simp
          try with_reducible rfl
        try simp only [Act.put, List.setIfInBounds_toArray, List.set_cons_zero, List.set_cons_succ]
        refine rg_gen (i := 15) (v := ?_) rfl (by kernel_rfl) (by kernel_rfl) (by kernel_rfl) (fun _ _ _ h => h) rfl (by rfl) ?_ (by assumption) ?_
        rotate_left
        · intro w hSw
          try dsimp only at hSw
          go_simp
          try with_reducible rfl
        try simp only [Act.put, List.setIfInBounds_toArray, List.set_cons_zero, List.set_cons_succ]
        refine rg_gen (i := 16) (v := ?_) rfl (by kernel_rfl) (by kernel_rfl) (by kernel_rfl) (fun _ _ _ h => h) rfl (by rfl) ?_ (by assumption) ?_
        rotate_left
        · intro w hSw
          try dsimp only at hSw
          go_simp
          try with_reducible rfl
        try simp only [Act.put, List.setIfInBounds_toArray, List.set_cons_zero, List.set_cons_succ]
        refine wpAnyH_ready (rs := [17, 21]) (by kernel_rfl) (by simp) ?_
        refine AllReadyH.cons rfl (fun K hK => ?_) (AllReadyH.cons rfl (fun K hK => ?_) AllReadyH.nil)
        · go_simp
          go_at_call 42
          refine (HLK.out _).mono ?_
          rintro e w6 ⟨rfl, hb6⟩
          have hB6 : Below wr.heap.size wr w6 := bw_call hBd hb6
          go_wp2_with fail
          refine hK.out _ _ (KEEP.out _ hB6) (fun hHeld1 => ?_)
          clear hK K
          try simp only [Act.put, List.setIfInBounds_toArray, List.set_cons_zero, List.set_cons_succ]
          refine rg_gen (i := 18) (v := ?_) rfl (by kernel_rfl) (by kernel_rfl) (by kernel_rfl) (fun _ _ _ h => h) rfl (by rfl) ?_ (by assumption) ?_
          rotate_left
          · intro w hSw
            try dsimp only at hSw
            go_simp
            try with_reducible rfl
          try simp only [Act.put, List.setIfInBounds_toArray, List.set_cons_zero, List.set_cons_succ]
          refine rg_gen (i := 19) (v := ?_) rfl (by kernel_rfl) (by kernel_rfl) (by kernel_rfl) (fun _ _ _ h => h) rfl (by rfl) ?_ (by assumption) ?_
          rotate_left
          · intro w hSw
            try dsimp only at hSw
            go_simp
            try with_reducible rfl
          try simp only [Act.put, List.setIfInBounds_toArray, List.set_cons_zero, List.set_cons_succ]
          refine rg_gen (i := 20) (v := ?_) rfl (by kernel_rfl) (by kernel_rfl) (by kernel_rfl) (fun _ _ _ h => h) rfl (by rfl) ?_ (by assumption) ?_
          rotate_left
          · intro w hSw
            try dsimp only at hSw
            go_simp
            try with_reducible rfl
          try simp only [Act.put, List.setIfInBounds_toArray, List.set_cons_zero, List.set_cons_succ]
          refine rg_one (i := 21) (by kernel_rfl) rfl (fun K hK => ?_)
          refine rg_step (s := Instr.alloc 61 true (.tuple #[])) (by rfl) rfl rfl (rc_alloc w6) ?_
          have hB7 : Below wr.heap.size wr (w6.alloc (.cells zlRc.toArray 61)) := bw_alloc hB6 _
          refine hK.out _ _ (KEEP.out _ hB7) (fun hHeld2 => ?_)
          clear hK K
          try simp only [Act.put, List.setIfInBounds_toArray, List.set_cons_zero, List.set_cons_succ]
          refine rg_one (i := 22) (by kernel_rfl) rfl (fun K hK => ?_)
          refine rg_store (by rfl) rfl 61 (.tmp 8) (.tmp 49) rfl w6.heap.size r.cells zlRc 61 rfl rfl (heap_alloc_new w6 _) HRL.out (rc_info HRW.out) (rc_one _) (fun W8 hU => ?_)
          have hB8 := hU.below hB7 hB6.size
          refine hK.out _ _ (KEEP.out _ hB8) (fun hHeld3 => ?_)
          clear hK K
          try simp only [Act.put, List.setIfInBounds_toArray, List.set_cons_zero, List.set_cons_succ]
          refine rg_gen (i := 23) (v := ?_) rfl (by kernel_rfl) (by kernel_rfl) (by kernel_rfl) (fun _ _ _ h => h) rfl (by rfl) ?_ (by assumption) ?_
          rotate_left
          · intro w hSw
            try dsimp only at hSw
            go_simp
            try with_reducible rfl
          try simp only [Act.put, List.setIfInBounds_toArray, List.set_cons_zero, List.set_cons_succ]
          refine wpAnyH_done (by kernel_rfl) ?_ _
          go_wp2_with fail
          go_meet
          case rel => exact ⟨w6.heap.size, rfl, rfl, hB6.size, hB8, hU.at_⟩
        · refine rg_step (s := Instr.alloc 61 true (.tuple #[])) (by rfl) rfl rfl (rc_alloc wr.drew) ?_
          have hB7 : Below wr.heap.size wr (wr.drew.alloc (.cells zlRc.toArray 61)) := bw_alloc hBd _
          have hz7 : (wr.drew.alloc (.cells zlRc.toArray 61)).heap[wr.heap.size]? = some (.cells zlRc.toArray 61 (0, 0)) := heap_alloc_new wr.drew _
          refine hK.out _ _ (KEEP.out _ hB7) (fun hHeld2 => ?_)
          clear hK K
          try simp only [Act.put, List.setIfInBounds_toArray, List.set_cons_zero, List.set_cons_succ]
          refine rg_one (i := 17) (by kernel_rfl) rfl (fun K hK => ?_)
          go_simp
          go_at_call 42
          refine (HLK.out _).mono ?_
          rintro e w6 ⟨rfl, hb6⟩
          have hB6 : Below wr.heap.size wr w6 := bw_call hB7 hb6
          have hz6 := keep_row hb6 hz7
          go_wp2_with fail
          refine hK.out _ _ (KEEP.out _ hB6) (fun hHeld1 => ?_)
          clear hK K
          try simp only [Act.put, List.setIfInBounds_toArray, List.set_cons_zero, List.set_cons_succ]
          refine rg_gen (i := 18) (v := ?_) rfl (by kernel_rfl) (by kernel_rfl) (by kernel_rfl) (fun _ _ _ h => h) rfl (by rfl) ?_ (by assumption) ?_
          rotate_left
          · intro w hSw
            try dsimp only at hSw
            go_simp
            try with_reducible rfl
          try simp only [Act.put, List.setIfInBounds_toArray, List.set_cons_zero, List.set_cons_succ]
          refine rg_gen (i := 19) (v := ?_) rfl (by kernel_rfl) (by kernel_rfl) (by kernel_rfl) (fun _ _ _ h => h) rfl (by rfl) ?_ (by assumption) ?_
          rotate_left
          · intro w hSw
            try dsimp only at hSw
            go_simp
            try with_reducible rfl
          try simp only [Act.put, List.setIfInBounds_toArray, List.set_cons_zero, List.set_cons_succ]
          refine rg_gen (i := 20) (v := ?_) rfl (by kernel_rfl) (by kernel_rfl) (by kernel_rfl) (fun _ _ _ h => h) rfl (by rfl) ?_ (by assumption) ?_
          rotate_left
          · intro w hSw
            try dsimp only at hSw
            go_simp
            try with_reducible rfl
          try simp only [Act.put, List.setIfInBounds_toArray, List.set_cons_zero, List.set_cons_succ]
          refine rg_one (i := 22) (by kernel_rfl) rfl (fun K hK => ?_)
          refine rg_store (by rfl) rfl 61 (.tmp 8) (.tmp 49) rfl wr.heap.size r.cells zlRc 61 rfl rfl hz6 HRL.out (rc_info HRW.out) (rc_one _) (fun W8 hU => ?_)
          have hB8 := hU.below hB6 (Nat.le_refl _)
          refine hK.out _ _ (KEEP.out _ hB8) (fun hHeld3 => ?_)
          clear hK K
          try simp only [Act.put, List.setIfInBounds_toArray, List.set_cons_zero, List.set_cons_succ]
          refine rg_gen (i := 23) (v := ?_) rfl (by kernel_rfl) (by kernel_rfl) (by kernel_rfl) (fun _ _ _ h => h) rfl (by rfl) ?_ (by assumption) ?_
          rotate_left
          · intro w hSw
            try dsimp only at hSw
            go_simp
            try with_reducible rfl
          try simp only [Act.put, List.setIfInBounds_toArray, List.set_cons_zero, List.set_cons_succ]
          refine wpAnyH_done (by kernel_rfl) ?_ _
          go_wp2_with fail
          go_meet
          case rel => exact ⟨wr.heap.size, rfl, rfl, Nat.le_refl _, hB8, hU.at_⟩
      case rest =>
        obtain ⟨b8, rfl, rfl, hb8, HB8, HT8⟩ := hcut
        have HNB : Hid (∀ x ∈ nx, 0 ≤ x ∧ x ≤ 1000) := show ∀ x ∈ _, _ from HNBD.out
        have HC8 := Lib.hid (HC0.out.next HB8.out)
        have hK8 := KEEP.out _ HB8.out
        have k1 := hK8.2.1
        have k2 := hK8.2.2.1
        have HRG8 : Hid (∀ q, (wc.drewN q).rangeAt g (j * 68) r.cells) := show ∀ q, _ from fun q => range_below HRG.out (bw_drewN HB8.out q) HGL.out
        have HRB8 : Hid (∀ q, (wc.drewN q).rangeAt b8 0 r.cells) := show ∀ q, _ from fun q => range_row (show (wc.drewN q).heap[b8]? = _ from HT8.out) id_at
        have HB8N : Hid (b8 ≠ pb ∧ b8 < wc.heap.size) := show _ ∧ _ from ⟨by have := block_lt HC0.out.p; omega, block_lt HT8.out⟩
        clear hK8 hb8
        by_cases h0 : 0 < j
        · have hd0 : decide ((0 : Int) < j) = true := decide_eq_true (by omega)
          have hd00 : decide (0 < j) = true := decide_eq_true h0
          have hpt := HPT.out h0
          obtain ⟨m, hm⟩ : ∃ m, m = j - 1 := ⟨_, rfl⟩
          rw [← hm] at hpt
          have e1 : IntKind.i64.wrap ((j : Int) - 1) = (m : Int) := by rw [show (j : Int) - 1 = m by omega]; exact IntWalk.i64_in _ (by omega)
          have g0 : (0 : Int) ≤ m := by omega
          have g1 : (m : Int) < n := by omega
          have hmg : g < wr.heap.size := HGL.out
          have k4 : wc.cell? ⟨g, m * 68 + 2, none⟩ = some (.int .i64 ptm) := (HB8.out.cell (p := ⟨g, m * 68 + 2, none⟩) hmg).trans hpt.1
          have hd1 : decide (r.time < ptm) = false := decide_eq_false (by omega)
          clear hpt hm h0 hmg
          go_wp2_with fail
          refine wp_region_classW (fun W => ∃ q, W = wc.drewN q) (by kernel_rfl) (by kernel_rfl) ⟨1, rfl⟩ ?_
          refine WQ.gen (v := ?_) (by kernel_rfl) ?_ ?_
          rotate_left
          · intro W hC
            go_simp
            try with_reducible rfl
          refine WQ.eq (a' := ?_) ?_ ?_
          rotate_left
          · try simp only [Act.put, List.setIfInBounds_toArray, List.set_cons_zero, List.set_cons_succ]
            exact rfl
          refine WQ.gen (v := ?_) (by kernel_rfl) ?_ ?_
          rotate_left
          · rintro W ⟨nq, rfl⟩
            go_simp
            try with_reducible rfl
          refine WQ.eq (a' := ?_) ?_ ?_
          rotate_left
          · try simp only [Act.put, List.setIfInBounds_toArray, List.set_cons_zero, List.set_cons_succ]
            exact rfl
          refine WQ.gen (v := ?_) (by kernel_rfl) ?_ ?_
          rotate_left
          · intro W hC
            go_simp
            try with_reducible rfl
          refine WQ.eq (a' := ?_) ?_ ?_
          rotate_left
          · try simp only [Act.put, List.setIfInBounds_toArray, List.set_cons_zero, List.set_cons_succ]
            exact rfl
          refine WQ.load (by kernel_rfl) 61 (.tmp 8) rfl b8 0 r.cells _ rfl (fun W hC => by obtain ⟨q, rfl⟩ := hC; exact HRB8.out q) Tryd.underlying61 rfl (rc_info HRW.out) ?_
          refine WQ.eq (a' := ?_) ?_ ?_
          rotate_left
          · try simp only [Act.put, List.setIfInBounds_toArray, List.set_cons_zero, List.set_cons_succ]
            exact rfl
          refine WQ.gen (v := ?_) (by kernel_rfl) ?_ ?_
          rotate_left
          · intro W hC
            go_simp
            try with_reducible rfl
          refine WQ.eq (a' := ?_) ?_ ?_
          rotate_left
          · try simp only [Act.put, List.setIfInBounds_toArray, List.set_cons_zero, List.set_cons_succ]
            exact rfl
          refine WQ.gen (v := ?_) (by kernel_rfl) ?_ ?_
          rotate_left
          · intro W hC
            go_simp
            try with_reducible rfl
          refine WQ.eq (a' := ?_) ?_ ?_
          rotate_left
          · try simp only [Act.put, List.setIfInBounds_toArray, List.set_cons_zero, List.set_cons_succ]
            exact rfl
          refine WQ.gen (v := ?_) (by kernel_rfl) ?_ ?_
          rotate_left
          · rintro W ⟨nq, rfl⟩
            go_simp
            try with_reducible rfl
          refine WQ.eq (a' := ?_) ?_ ?_
          rotate_left
          · try simp only [Act.put, List.setIfInBounds_toArray, List.set_cons_zero, List.set_cons_succ]
            exact rfl
          refine WQ.load (by kernel_rfl) 61 (.tmp 57) rfl g (j * 68) r.cells _ rfl (fun W hC => by obtain ⟨q, rfl⟩ := hC; exact HRG8.out q) Tryd.underlying61 rfl (rc_info HRW.out) ?_
          refine WQ.eq (a' := ?_) ?_ ?_
          rotate_left
          · try simp only [Act.put, List.setIfInBounds_toArray, List.set_cons_zero, List.set_cons_succ]
            exact rfl
          refine WQ.bin (by kernel_rfl) .neq 61 61 (.tmp 54) (.tmp 58) rfl (.agg r.cells.toArray) (.agg r.cells.toArray) (.bool false) rfl rfl (rc_eqG _ _ _ _ _) (fun w => (rc_neq HRW.out HRW.out w).trans (by rw [decide_eq_true (rfl : r = r)]; rfl)) ?_
          refine WQ.eq (a' := ?_) ?_ ?_
          rotate_left
          · try simp only [Act.put, List.setIfInBounds_toArray, List.set_cons_zero, List.set_cons_succ]
            exact rfl
          refine WQ.gen (v := ?_) (by kernel_rfl) ?_ ?_
          rotate_left
          · rintro W ⟨nq, rfl⟩
            go_simp
            try with_reducible rfl
          refine WQ.eq (a' := ?_) ?_ ?_
          rotate_left
          · try simp only [Act.put, List.setIfInBounds_toArray, List.set_cons_zero, List.set_cons_succ]
            exact rfl
          refine WQ.gen (v := ?_) (by kernel_rfl) ?_ ?_
          rotate_left
          · intro W hC
            go_simp
            try with_reducible rfl
          refine WQ.eq (a' := ?_) ?_ ?_
          rotate_left
          · try simp only [Act.put, List.setIfInBounds_toArray, List.set_cons_zero, List.set_cons_succ]
            exact rfl
          refine WQ.gen (v := ?_) (by kernel_rfl) ?_ ?_
          rotate_left
          · intro W hC
            go_simp
            try with_reducible rfl
          refine WQ.eq (a' := ?_) ?_ ?_
          rotate_left
          · try simp only [Act.put, List.setIfInBounds_toArray, List.set_cons_zero, List.set_cons_succ]
            exact rfl
          refine WQ.gen (v := ?_) (by kernel_rfl) ?_ ?_
          rotate_left
          · rintro W ⟨nq, rfl⟩
            go_simp
            try with_reducible rfl
          refine WQ.eq (a' := ?_) ?_ ?_
          rotate_left
          · try simp only [Act.put, List.setIfInBounds_toArray, List.set_cons_zero, List.set_cons_succ]
            exact rfl
          refine WQ.gen (v := ?_) (by kernel_rfl) ?_ ?_
          rotate_left
          · intro W hC
            go_simp
            try with_reducible rfl
          refine WQ.eq (a' := ?_) ?_ ?_
          rotate_left
          · try simp only [Act.put, List.setIfInBounds_toArray, List.set_cons_zero, List.set_cons_succ]
            exact rfl
          refine WQ.gen (v := ?_) (by kernel_rfl) ?_ ?_
          rotate_left
          · intro W hC
            go_simp
            try with_reducible rfl
          refine WQ.eq (a' := ?_) ?_ ?_
          rotate_left
          · try simp only [Act.put, List.setIfInBounds_toArray, List.set_cons_zero, List.set_cons_succ]
            exact rfl
          refine WQ.gen (v := ?_) (by kernel_rfl) ?_ ?_
          rotate_left
          · intro W hC
            go_simp
            try with_reducible rfl
          refine WQ.eq (a' := ?_) ?_ ?_
          rotate_left
          · try simp only [Act.put, List.setIfInBounds_toArray, List.set_cons_zero, List.set_cons_succ]
            exact rfl
          refine WQ.gen (v := ?_) (by kernel_rfl) ?_ ?_
          rotate_left
          · rintro W ⟨nq, rfl⟩
            go_simp
            try with_reducible rfl
          refine WQ.eq (a' := ?_) ?_ ?_
          rotate_left
          · try simp only [Act.put, List.setIfInBounds_toArray, List.set_cons_zero, List.set_cons_succ]
            exact rfl
          refine WQ.gen (v := ?_) (by kernel_rfl) ?_ ?_
          rotate_left
          · rintro W ⟨nq, rfl⟩
            go_simp
            try with_reducible rfl
          refine WQ.eq (a' := ?_) ?_ ?_
          rotate_left
          · try simp only [Act.put, List.setIfInBounds_toArray, List.set_cons_zero, List.set_cons_succ]
            exact rfl
          refine WQ.gen (v := ?_) (by kernel_rfl) ?_ ?_
          rotate_left
          · rintro W ⟨nq, rfl⟩
            go_simp
            try with_reducible rfl
          refine WQ.eq (a' := ?_) ?_ ?_
          rotate_left
          · try simp only [Act.put, List.setIfInBounds_toArray, List.set_cons_zero, List.set_cons_succ]
            exact rfl
          refine WQ.gen (v := ?_) (by kernel_rfl) ?_ ?_
          rotate_left
          · intro W hC
            go_simp
            try with_reducible rfl
          refine WQ.eq (a' := ?_) ?_ ?_
          rotate_left
          · try simp only [Act.put, List.setIfInBounds_toArray, List.set_cons_zero, List.set_cons_succ]
            exact rfl
          refine WQ.gen (v := ?_) (by kernel_rfl) ?_ ?_
          rotate_left
          · intro W hC
            go_simp
            try with_reducible rfl
          refine WQ.eq (a' := ?_) ?_ ?_
          rotate_left
          · try simp only [Act.put, List.setIfInBounds_toArray, List.set_cons_zero, List.set_cons_succ]
            exact rfl
          refine WQ.gen (v := ?_) (by kernel_rfl) ?_ ?_
          rotate_left
          · rintro W ⟨nq, rfl⟩
            go_simp
            try with_reducible rfl
          refine WQ.eq (a' := ?_) ?_ ?_
          rotate_left
          · try simp only [Act.put, List.setIfInBounds_toArray, List.set_cons_zero, List.set_cons_succ]
            exact rfl
          refine WQ.gen (v := ?_) (by kernel_rfl) ?_ ?_
          rotate_left
          · rintro W ⟨nq, rfl⟩
            go_simp
            try with_reducible rfl
          refine WQ.eq (a' := ?_) ?_ ?_
          rotate_left
          · try simp only [Act.put, List.setIfInBounds_toArray, List.set_cons_zero, List.set_cons_succ]
            exact rfl
          refine WQ.gen (v := ?_) (by kernel_rfl) ?_ ?_
          rotate_left
          · rintro W ⟨nq, rfl⟩
            go_simp
            try with_reducible rfl
          refine WQ.eq (a' := ?_) ?_ ?_
          rotate_left
          · try simp only [Act.put, List.setIfInBounds_toArray, List.set_cons_zero, List.set_cons_succ]
            exact rfl
          refine WQ.gen (v := ?_) (by kernel_rfl) ?_ ?_
          rotate_left
          · rintro W ⟨nq, rfl⟩
            go_simp
            try with_reducible rfl
          refine WQ.eq (a' := ?_) ?_ ?_
          rotate_left
          · try simp only [Act.put, List.setIfInBounds_toArray, List.set_cons_zero, List.set_cons_succ]
            exact rfl
          refine WQ.gen (v := ?_) (by kernel_rfl) ?_ ?_
          rotate_left
          · rintro W ⟨nq, rfl⟩
            go_simp
            try with_reducible rfl
          refine WQ.eq (a' := ?_) ?_ ?_
          rotate_left
          · try simp only [Act.put, List.setIfInBounds_toArray, List.set_cons_zero, List.set_cons_succ]
            exact rfl
          refine WQ.gen (v := ?_) (by kernel_rfl) ?_ ?_
          rotate_left
          · rintro W ⟨nq, rfl⟩
            go_simp
            try with_reducible rfl
          refine WQ.eq (a' := ?_) ?_ ?_
          rotate_left
          · try simp only [Act.put, List.setIfInBounds_toArray, List.set_cons_zero, List.set_cons_succ]
            exact rfl
          refine WQ.gen (v := ?_) (by kernel_rfl) ?_ ?_
          rotate_left
          · rintro W ⟨nq, rfl⟩
            go_simp
            try with_reducible rfl
          refine WQ.eq (a' := ?_) ?_ ?_
          rotate_left
          · try simp only [Act.put, List.setIfInBounds_toArray, List.set_cons_zero, List.set_cons_succ]
            exact rfl
          refine WQ.nil ?_
          rintro w9 ⟨nq9, rfl⟩
          clear hd0 hd1 k4 e1 g0 g1
          try clear hd00
          have HC9 := Lib.hid (HC8.out.next (bw_drewN (Below.refl wc.heap.size wc) nq9))
          have hT9 : (wc.drewN nq9).heap[b8]? = some (.cells r.cells.toArray 61 (0, 0)) := HT8.out
          have hP9 := HC9.out.p
          clear k1 k2 HB8 HT8 HRG8 HRB8 HC8
          have HHQ : Hid (r.hash.length = 32) := show _ = _ from HRW.out.hash
          rcases HSF.out.2.2.2.2 with ⟨hk, t, hrd, hsg, hno, hcn⟩ | ⟨hk, hcn⟩
          · have hd : (r.kind == 1) = true := by simpa using hk
            obtain ⟨htw, -, -⟩ := tx_back hrd
            have hfm := frm_of hrd
            obtain ⟨fr, hfr⟩ : ∃ fr : Nat, t.frm = (fr : Int) := ⟨t.frm.toNat, by omega⟩
            have hfr64 : fr < 64 := by omega
            rw [show t.frm.toNat = fr by omega] at hno hcn
            obtain ⟨nn, hnn⟩ : ∃ x, x = nx.getD fr 0 := ⟨_, rfl⟩
            rw [← hnn] at hno hcn
            have HCNT := Lib.hid hcn
            have HTW := Lib.hid htw
            have HRD := Lib.hid hrd
            have HSG := Lib.hid hsg
            have HFR := Lib.hid hfr
            have HNO := Lib.hid hno
            have hnnb : 0 ≤ nn ∧ nn ≤ 1000 := by
              rw [hnn, List.getD_eq_getElem?_getD, List.getElem?_eq_getElem (by rw [HNL.out]; exact hfr64)]
              exact HNB.out _ (List.getElem_mem _)
            have HNG : Hid ((nums64 nx)[fr]? = some (.int .i64 nn)) := show _ = _ by
              rw [nums64, List.getElem?_map, hnn, List.getD_eq_getElem?_getD, List.getElem?_eq_getElem (by rw [HNL.out]; exact hfr64)]
              rfl
            have HTL : Hid (t.cells.length = zlTx.length) := show _ = _ from t.cells_length HTW.out.by_ HTW.out.tag
            have h0f : (0 : Int) ≤ fr := by omega
            have h1f : (fr : Int) < 64 := by omega
            have e2 : IntKind.i64.wrap (nn + 1) = nn + 1 := IntWalk.i64_in _ (by omega)
            clear hk hcn hno hsg hrd htw hfm hfr hnn
            go_wp2_with (first
              | (with_reducible refine wpList_load_rows rfl 23 (.tmp 79) rfl b8 36 (u8s r.hash) r.cells 61 (0, 0) _ rfl hT9 (RC.at_hash HRW.out.prev) Tryd.underlying23 rfl (hash_info HHQ.out) ?_)
              | ((with_reducible refine wpList_store_whole rfl 23 (.tmp 5) (.tmp 80) rfl pb (u8s r.hash) (u8s h) 23 rfl rfl hP9 (by rw [u8s_length, u8s_length, HHQ.out, HHL.out]) (hash_info HHQ.out) (u8s_one _) ?_); intro w10 hU10; have hT10 := (hU10.out.other _ HB8N.out.1).trans hT9; have ck1 : w10.cell? ⟨b8, 1, none⟩ = some (.int .i64 r.kind) := (by rw [cell_of_row w10 b8 1 _ _ _ hT10]; rfl); have ck3 : w10.cell? ⟨b8, 3, none⟩ = some (.string r.body) := (by rw [cell_of_row w10 b8 3 _ _ _ hT10]; rfl); have HC10 := Lib.hid (HC9.out.setP hU10.out); clear hP9 hT9))
            refine (rread_any r.body _ (Nat.le_trans HRW.out.body (by decide))).mono ?_
            rintro e w11 ⟨rfl, hb11⟩
            rw [HRD.out]
            simp only [txOf, errOf]
            have hz11 : (w11.alloc (.cells Tryd.zeroCells25 25)).heap[w11.heap.size]? = some (.cells zlTx.toArray 25 (0, 0)) := heap_alloc_new w11 _
            have HC11 := Lib.hid (HC10.out.next hb11)
            clear hb11 hT10 ck1 ck3
            go_wp2_with ((with_reducible refine wpList_store_whole rfl 25 (.tmp 10) (.tmp 88) rfl w11.heap.size t.cells zlTx 25 rfl rfl hz11 HTL.out (tx_info HTW.out) (start_one _) ?_); intro w12 hU12; have hT12 := hU12.out.at_; have HC12 := Lib.hid (HC11.out.next (hU12.out.below (bw_alloc (Below.refl w11.heap.size w11) _) (Nat.le_refl _))); clear hz11)
            generalize w11.heap.size = b10 at *
            have c0 : w12.cell? ⟨b10, 0, none⟩ = some (.int .i64 fr) := by rw [← HFR.out, cell_of_row w12 b10 0 _ _ _ hT12]; rfl
            have c1 : w12.cell? ⟨b10, 1, none⟩ = some (.int .i64 nn) := by rw [← HNO.out, cell_of_row w12 b10 1 _ _ _ hT12]; rfl
            have cn : w12.cell? ⟨nb, fr, none⟩ = some (.int .i64 nn) := by rw [cell_of_row w12 nb fr _ _ _ HC12.out.n, List.getElem?_toArray]; exact HNG.out
            have HNBL : Hid (nb < w12.heap.size) := show _ < _ from block_lt HC12.out.n
            have HBTL : Hid (b10 < w12.heap.size) := show _ < _ from block_lt hT12
            refine wp_region_classW (fun W => Below w12.heap.size w12 W ∧ W.cell? ⟨b10, 0, none⟩ = some (.int .i64 fr) ∧ W.cell? ⟨b10, 1, none⟩ = some (.int .i64 nn) ∧ W.cell? ⟨nb, fr, none⟩ = some (.int .i64 nn)) (by kernel_rfl) (by kernel_rfl) ⟨(Below.refl _ _).drew, c0, c1, cn⟩ ?_
            refine WQ.gen (v := ?_) (by kernel_rfl) ?_ ?_
            rotate_left
            · intro W hC
              go_simp
              try with_reducible rfl
            refine WQ.eq (a' := ?_) ?_ ?_
            rotate_left
            · try simp only [Act.put, List.setIfInBounds_toArray, List.set_cons_zero, List.set_cons_succ]
              exact rfl
            refine WQ.gen (v := ?_) (by kernel_rfl) ?_ ?_
            rotate_left
            · intro W hC
              go_simp
              try with_reducible rfl
            refine WQ.eq (a' := ?_) ?_ ?_
            rotate_left
            · try simp only [Act.put, List.setIfInBounds_toArray, List.set_cons_zero, List.set_cons_succ]
              exact rfl
            refine WQ.gen (v := ?_) (by kernel_rfl) ?_ ?_
            rotate_left
            · intro W hC
              go_simp
              try with_reducible rfl
            refine WQ.eq (a' := ?_) ?_ ?_
            rotate_left
            · try simp only [Act.put, List.setIfInBounds_toArray, List.set_cons_zero, List.set_cons_succ]
              exact rfl
            refine WQ.gen (v := ?_) (by kernel_rfl) ?_ ?_
            rotate_left
            · intro W hC
              go_simp
              try with_reducible rfl
            refine WQ.eq (a' := ?_) ?_ ?_
            rotate_left
            · try simp only [Act.put, List.setIfInBounds_toArray, List.set_cons_zero, List.set_cons_succ]
              exact rfl
            refine WQ.gen (v := ?_) (by kernel_rfl) ?_ ?_
            rotate_left
            · intro W hC
              go_simp
              try with_reducible rfl
            refine WQ.eq (a' := ?_) ?_ ?_
            rotate_left
            · try simp only [Act.put, List.setIfInBounds_toArray, List.set_cons_zero, List.set_cons_succ]
              exact rfl
            refine WQ.gen (v := ?_) (by kernel_rfl) ?_ ?_
            rotate_left
            · intro W hC
              go_simp
              try with_reducible rfl
            refine WQ.eq (a' := ?_) ?_ ?_
            rotate_left
            · try simp only [Act.put, List.setIfInBounds_toArray, List.set_cons_zero, List.set_cons_succ]
              exact rfl
            refine WQ.gen (v := ?_) (by kernel_rfl) ?_ ?_
            rotate_left
            · intro W hC
              go_simp
              try with_reducible rfl
            refine WQ.eq (a' := ?_) ?_ ?_
            rotate_left
            · try simp only [Act.put, List.setIfInBounds_toArray, List.set_cons_zero, List.set_cons_succ]
              exact rfl
            refine WQ.gen (v := ?_) (by kernel_rfl) ?_ ?_
            rotate_left
            · intro W hC
              go_simp
              try with_reducible rfl
            refine WQ.eq (a' := ?_) ?_ ?_
            rotate_left
            · try simp only [Act.put, List.setIfInBounds_toArray, List.set_cons_zero, List.set_cons_succ]
              exact rfl
            refine WQ.gen (v := ?_) (by kernel_rfl) ?_ ?_
            rotate_left
            · intro W hC
              go_simp
              try with_reducible rfl
            refine WQ.eq (a' := ?_) ?_ ?_
            rotate_left
            · try simp only [Act.put, List.setIfInBounds_toArray, List.set_cons_zero, List.set_cons_succ]
              exact rfl
            refine WQ.gen (v := ?_) (by kernel_rfl) ?_ ?_
            rotate_left
            · intro W hC
              go_simp
              try with_reducible rfl
            refine WQ.eq (a' := ?_) ?_ ?_
            rotate_left
            · try simp only [Act.put, List.setIfInBounds_toArray, List.set_cons_zero, List.set_cons_succ]
              exact rfl
            refine WQ.gen (v := ?_) (by kernel_rfl) ?_ ?_
            rotate_left
            · intro W hC
              go_simp
              try with_reducible rfl
            refine WQ.eq (a' := ?_) ?_ ?_
            rotate_left
            · try simp only [Act.put, List.setIfInBounds_toArray, List.set_cons_zero, List.set_cons_succ]
              exact rfl
            refine WQ.gen (v := ?_) (by kernel_rfl) ?_ ?_
            rotate_left
            · intro W hC
              go_simp
              try with_reducible rfl
            refine WQ.eq (a' := ?_) ?_ ?_
            rotate_left
            · try simp only [Act.put, List.setIfInBounds_toArray, List.set_cons_zero, List.set_cons_succ]
              exact rfl
            refine WQ.gen (v := ?_) (by kernel_rfl) ?_ ?_
            rotate_left
            · intro W hC
              go_simp
              try with_reducible rfl
            refine WQ.eq (a' := ?_) ?_ ?_
            rotate_left
            · try simp only [Act.put, List.setIfInBounds_toArray, List.set_cons_zero, List.set_cons_succ]
              exact rfl
            refine WQ.load (by kernel_rfl) 25 (.tmp 10) rfl b10 0 t.cells _ rfl (fun W hC => range_row (keep_row hC.1 hT12) id_at) Tryd.underlying25 rfl (tx_info HTW.out) ?_
            refine WQ.eq (a' := ?_) ?_ ?_
            rotate_left
            · try simp only [Act.put, List.setIfInBounds_toArray, List.set_cons_zero, List.set_cons_succ]
              exact rfl
            refine WQ.call (f := 28) (args := #[.agg t.cells.toArray]) (v := .int .i64 0) (by kernel_rfl) (fun W hC => ?_) (fun W hC => ?_) ?_
            · go_simp
              try with_reducible rfl
            · exact (rsigned_any t W HTW.out).mono (fun e W' h => ⟨h.1.trans (by rw [HSG.out]), bw_call hC.1 h.2, (h.2.cell (block_of_cell hC.2.1)).trans hC.2.1, (h.2.cell (block_of_cell hC.2.2.1)).trans hC.2.2.1, (h.2.cell (block_of_cell hC.2.2.2)).trans hC.2.2.2⟩)
            refine WQ.eq (a' := ?_) ?_ ?_
            rotate_left
            · try simp only [Act.put, List.setIfInBounds_toArray, List.set_cons_zero, List.set_cons_succ]
              exact rfl
            refine WQ.gen (v := ?_) (by kernel_rfl) ?_ ?_
            rotate_left
            · intro W hC
              go_simp
              try with_reducible rfl
            refine WQ.eq (a' := ?_) ?_ ?_
            rotate_left
            · try simp only [Act.put, List.setIfInBounds_toArray, List.set_cons_zero, List.set_cons_succ]
              exact rfl
            refine WQ.gen (v := ?_) (by kernel_rfl) ?_ ?_
            rotate_left
            · intro W hC
              go_simp
              try with_reducible rfl
            refine WQ.eq (a' := ?_) ?_ ?_
            rotate_left
            · try simp only [Act.put, List.setIfInBounds_toArray, List.set_cons_zero, List.set_cons_succ]
              exact rfl
            refine WQ.nil ?_
            intro w13 hC13
            have HC13 := Lib.hid (HC12.out.next hC13.1)
            have d0 := hC13.2.1
            have dn := hC13.2.2.2
            have dz : w13.frozen? ⟨nb, fr, none⟩ = false := frozen_of_row w13 nb fr _ _ HC13.out.n
            clear hC13 c0 c1 cn hT12
            go_wp2_with fail
            go_roundw
            case rel => exact ⟨j + 1, by omega, by go_num, show ChAt _ _ _ _ _ _ _ _ _ _ _ from by rw [HSF.out.2.2.2.1, HCNT.out]; exact HC13.out.setN fr (nn + 1)⟩
            case measure => simp [intOf]; omega
          · have hd : (r.kind == 1) = false := by simpa using hk
            have HCNT := Lib.hid hcn
            clear hk hcn
            go_wp2_with (first
              | (with_reducible refine wpList_load_rows rfl 23 (.tmp 79) rfl b8 36 (u8s r.hash) r.cells 61 (0, 0) _ rfl hT9 (RC.at_hash HRW.out.prev) Tryd.underlying23 rfl (hash_info HHQ.out) ?_)
              | ((with_reducible refine wpList_store_whole rfl 23 (.tmp 5) (.tmp 80) rfl pb (u8s r.hash) (u8s h) 23 rfl rfl hP9 (by rw [u8s_length, u8s_length, HHQ.out, HHL.out]) (hash_info HHQ.out) (u8s_one _) ?_); intro w10 hU10; have hT10 := (hU10.out.other _ HB8N.out.1).trans hT9; have ck1 : w10.cell? ⟨b8, 1, none⟩ = some (.int .i64 r.kind) := (by rw [cell_of_row w10 b8 1 _ _ _ hT10]; rfl); have HC10 := Lib.hid (HC9.out.setP hU10.out); clear hP9 hT9))
            go_roundw
            case rel => exact ⟨j + 1, by omega, by go_num, show ChAt _ _ _ _ _ _ _ _ _ _ _ from by rw [HSF.out.2.2.2.1, HCNT.out]; exact HC10.out⟩
            case measure => simp [intOf]; omega
        · have hd0 : decide ((0 : Int) < j) = false := decide_eq_false (by omega)
          have hd00 : decide (0 < j) = false := decide_eq_false h0
          clear h0
          go_wp2_with fail
          refine wp_region_classW (fun W => ∃ q, W = wc.drewN q) (by kernel_rfl) (by kernel_rfl) ⟨1, rfl⟩ ?_
          refine WQ.gen (v := ?_) (by kernel_rfl) ?_ ?_
          rotate_left
          · intro W hC
            go_simp
            try with_reducible rfl
          refine WQ.eq (a' := ?_) ?_ ?_
          rotate_left
          · try simp only [Act.put, List.setIfInBounds_toArray, List.set_cons_zero, List.set_cons_succ]
            exact rfl
          refine WQ.gen (v := ?_) (by kernel_rfl) ?_ ?_
          rotate_left
          · rintro W ⟨nq, rfl⟩
            go_simp
            try with_reducible rfl
          refine WQ.eq (a' := ?_) ?_ ?_
          rotate_left
          · try simp only [Act.put, List.setIfInBounds_toArray, List.set_cons_zero, List.set_cons_succ]
            exact rfl
          refine WQ.gen (v := ?_) (by kernel_rfl) ?_ ?_
          rotate_left
          · intro W hC
            go_simp
            try with_reducible rfl
          refine WQ.eq (a' := ?_) ?_ ?_
          rotate_left
          · try simp only [Act.put, List.setIfInBounds_toArray, List.set_cons_zero, List.set_cons_succ]
            exact rfl
          refine WQ.load (by kernel_rfl) 61 (.tmp 8) rfl b8 0 r.cells _ rfl (fun W hC => by obtain ⟨q, rfl⟩ := hC; exact HRB8.out q) Tryd.underlying61 rfl (rc_info HRW.out) ?_
          refine WQ.eq (a' := ?_) ?_ ?_
          rotate_left
          · try simp only [Act.put, List.setIfInBounds_toArray, List.set_cons_zero, List.set_cons_succ]
            exact rfl
          refine WQ.gen (v := ?_) (by kernel_rfl) ?_ ?_
          rotate_left
          · intro W hC
            go_simp
            try with_reducible rfl
          refine WQ.eq (a' := ?_) ?_ ?_
          rotate_left
          · try simp only [Act.put, List.setIfInBounds_toArray, List.set_cons_zero, List.set_cons_succ]
            exact rfl
          refine WQ.gen (v := ?_) (by kernel_rfl) ?_ ?_
          rotate_left
          · intro W hC
            go_simp
            try with_reducible rfl
          refine WQ.eq (a' := ?_) ?_ ?_
          rotate_left
          · try simp only [Act.put, List.setIfInBounds_toArray, List.set_cons_zero, List.set_cons_succ]
            exact rfl
          refine WQ.gen (v := ?_) (by kernel_rfl) ?_ ?_
          rotate_left
          · rintro W ⟨nq, rfl⟩
            go_simp
            try with_reducible rfl
          refine WQ.eq (a' := ?_) ?_ ?_
          rotate_left
          · try simp only [Act.put, List.setIfInBounds_toArray, List.set_cons_zero, List.set_cons_succ]
            exact rfl
          refine WQ.load (by kernel_rfl) 61 (.tmp 57) rfl g (j * 68) r.cells _ rfl (fun W hC => by obtain ⟨q, rfl⟩ := hC; exact HRG8.out q) Tryd.underlying61 rfl (rc_info HRW.out) ?_
          refine WQ.eq (a' := ?_) ?_ ?_
          rotate_left
          · try simp only [Act.put, List.setIfInBounds_toArray, List.set_cons_zero, List.set_cons_succ]
            exact rfl
          refine WQ.bin (by kernel_rfl) .neq 61 61 (.tmp 54) (.tmp 58) rfl (.agg r.cells.toArray) (.agg r.cells.toArray) (.bool false) rfl rfl (rc_eqG _ _ _ _ _) (fun w => (rc_neq HRW.out HRW.out w).trans (by rw [decide_eq_true (rfl : r = r)]; rfl)) ?_
          refine WQ.eq (a' := ?_) ?_ ?_
          rotate_left
          · try simp only [Act.put, List.setIfInBounds_toArray, List.set_cons_zero, List.set_cons_succ]
            exact rfl
          refine WQ.gen (v := ?_) (by kernel_rfl) ?_ ?_
          rotate_left
          · rintro W ⟨nq, rfl⟩
            go_simp
            try with_reducible rfl
          refine WQ.eq (a' := ?_) ?_ ?_
          rotate_left
          · try simp only [Act.put, List.setIfInBounds_toArray, List.set_cons_zero, List.set_cons_succ]
            exact rfl
          refine WQ.gen (v := ?_) (by kernel_rfl) ?_ ?_
          rotate_left
          · intro W hC
            go_simp
            try with_reducible rfl
          refine WQ.eq (a' := ?_) ?_ ?_
          rotate_left
          · try simp only [Act.put, List.setIfInBounds_toArray, List.set_cons_zero, List.set_cons_succ]
            exact rfl
          refine WQ.gen (v := ?_) (by kernel_rfl) ?_ ?_
          rotate_left
          · intro W hC
            go_simp
            try with_reducible rfl
          refine WQ.eq (a' := ?_) ?_ ?_
          rotate_left
          · try simp only [Act.put, List.setIfInBounds_toArray, List.set_cons_zero, List.set_cons_succ]
            exact rfl
          refine WQ.gen (v := ?_) (by kernel_rfl) ?_ ?_
          rotate_left
          · rintro W ⟨nq, rfl⟩
            go_simp
            try with_reducible rfl
          refine WQ.eq (a' := ?_) ?_ ?_
          rotate_left
          · try simp only [Act.put, List.setIfInBounds_toArray, List.set_cons_zero, List.set_cons_succ]
            exact rfl
          refine WQ.gen (v := ?_) (by kernel_rfl) ?_ ?_
          rotate_left
          · intro W hC
            go_simp
            try with_reducible rfl
          refine WQ.eq (a' := ?_) ?_ ?_
          rotate_left
          · try simp only [Act.put, List.setIfInBounds_toArray, List.set_cons_zero, List.set_cons_succ]
            exact rfl
          refine WQ.skip (by kernel_rfl) ?_
          refine WQ.eq (a' := ?_) ?_ ?_
          rotate_left
          · try simp only [Act.put, List.setIfInBounds_toArray, List.set_cons_zero, List.set_cons_succ]
            exact rfl
          refine WQ.skip (by kernel_rfl) ?_
          refine WQ.eq (a' := ?_) ?_ ?_
          rotate_left
          · try simp only [Act.put, List.setIfInBounds_toArray, List.set_cons_zero, List.set_cons_succ]
            exact rfl
          refine WQ.skip (by kernel_rfl) ?_
          refine WQ.eq (a' := ?_) ?_ ?_
          rotate_left
          · try simp only [Act.put, List.setIfInBounds_toArray, List.set_cons_zero, List.set_cons_succ]
            exact rfl
          refine WQ.skip (by kernel_rfl) ?_
          refine WQ.eq (a' := ?_) ?_ ?_
          rotate_left
          · try simp only [Act.put, List.setIfInBounds_toArray, List.set_cons_zero, List.set_cons_succ]
            exact rfl
          refine WQ.skip (by kernel_rfl) ?_
          refine WQ.eq (a' := ?_) ?_ ?_
          rotate_left
          · try simp only [Act.put, List.setIfInBounds_toArray, List.set_cons_zero, List.set_cons_succ]
            exact rfl
          refine WQ.skip (by kernel_rfl) ?_
          refine WQ.eq (a' := ?_) ?_ ?_
          rotate_left
          · try simp only [Act.put, List.setIfInBounds_toArray, List.set_cons_zero, List.set_cons_succ]
            exact rfl
          refine WQ.skip (by kernel_rfl) ?_
          refine WQ.eq (a' := ?_) ?_ ?_
          rotate_left
          · try simp only [Act.put, List.setIfInBounds_toArray, List.set_cons_zero, List.set_cons_succ]
            exact rfl
          refine WQ.skip (by kernel_rfl) ?_
          refine WQ.eq (a' := ?_) ?_ ?_
          rotate_left
          · try simp only [Act.put, List.setIfInBounds_toArray, List.set_cons_zero, List.set_cons_succ]
            exact rfl
          refine WQ.skip (by kernel_rfl) ?_
          refine WQ.eq (a' := ?_) ?_ ?_
          rotate_left
          · try simp only [Act.put, List.setIfInBounds_toArray, List.set_cons_zero, List.set_cons_succ]
            exact rfl
          refine WQ.skip (by kernel_rfl) ?_
          refine WQ.eq (a' := ?_) ?_ ?_
          rotate_left
          · try simp only [Act.put, List.setIfInBounds_toArray, List.set_cons_zero, List.set_cons_succ]
            exact rfl
          refine WQ.skip (by kernel_rfl) ?_
          refine WQ.eq (a' := ?_) ?_ ?_
          rotate_left
          · try simp only [Act.put, List.setIfInBounds_toArray, List.set_cons_zero, List.set_cons_succ]
            exact rfl
          refine WQ.skip (by kernel_rfl) ?_
          refine WQ.eq (a' := ?_) ?_ ?_
          rotate_left
          · try simp only [Act.put, List.setIfInBounds_toArray, List.set_cons_zero, List.set_cons_succ]
            exact rfl
          refine WQ.gen (v := ?_) (by kernel_rfl) ?_ ?_
          rotate_left
          · rintro W ⟨nq, rfl⟩
            go_simp
            try with_reducible rfl
          refine WQ.eq (a' := ?_) ?_ ?_
          rotate_left
          · try simp only [Act.put, List.setIfInBounds_toArray, List.set_cons_zero, List.set_cons_succ]
            exact rfl
          refine WQ.gen (v := ?_) (by kernel_rfl) ?_ ?_
          rotate_left
          · rintro W ⟨nq, rfl⟩
            go_simp
            try with_reducible rfl
          refine WQ.eq (a' := ?_) ?_ ?_
          rotate_left
          · try simp only [Act.put, List.setIfInBounds_toArray, List.set_cons_zero, List.set_cons_succ]
            exact rfl
          refine WQ.nil ?_
          rintro w9 ⟨nq9, rfl⟩
          clear hd0
          try clear hd00
          have HC9 := Lib.hid (HC8.out.next (bw_drewN (Below.refl wc.heap.size wc) nq9))
          have hT9 : (wc.drewN nq9).heap[b8]? = some (.cells r.cells.toArray 61 (0, 0)) := HT8.out
          have hP9 := HC9.out.p
          clear k1 k2 HB8 HT8 HRG8 HRB8 HC8
          have HHQ : Hid (r.hash.length = 32) := show _ = _ from HRW.out.hash
          rcases HSF.out.2.2.2.2 with ⟨hk, t, hrd, hsg, hno, hcn⟩ | ⟨hk, hcn⟩
          · have hd : (r.kind == 1) = true := by simpa using hk
            obtain ⟨htw, -, -⟩ := tx_back hrd
            have hfm := frm_of hrd
            obtain ⟨fr, hfr⟩ : ∃ fr : Nat, t.frm = (fr : Int) := ⟨t.frm.toNat, by omega⟩
            have hfr64 : fr < 64 := by omega
            rw [show t.frm.toNat = fr by omega] at hno hcn
            obtain ⟨nn, hnn⟩ : ∃ x, x = nx.getD fr 0 := ⟨_, rfl⟩
            rw [← hnn] at hno hcn
            have HCNT := Lib.hid hcn
            have HTW := Lib.hid htw
            have HRD := Lib.hid hrd
            have HSG := Lib.hid hsg
            have HFR := Lib.hid hfr
            have HNO := Lib.hid hno
            have hnnb : 0 ≤ nn ∧ nn ≤ 1000 := by
              rw [hnn, List.getD_eq_getElem?_getD, List.getElem?_eq_getElem (by rw [HNL.out]; exact hfr64)]
              exact HNB.out _ (List.getElem_mem _)
            have HNG : Hid ((nums64 nx)[fr]? = some (.int .i64 nn)) := show _ = _ by
              rw [nums64, List.getElem?_map, hnn, List.getD_eq_getElem?_getD, List.getElem?_eq_getElem (by rw [HNL.out]; exact hfr64)]
              rfl
            have HTL : Hid (t.cells.length = zlTx.length) := show _ = _ from t.cells_length HTW.out.by_ HTW.out.tag
            have h0f : (0 : Int) ≤ fr := by omega
            have h1f : (fr : Int) < 64 := by omega
            have e2 : IntKind.i64.wrap (nn + 1) = nn + 1 := IntWalk.i64_in _ (by omega)
            clear hk hcn hno hsg hrd htw hfm hfr hnn
            go_wp2_with (first
              | (with_reducible refine wpList_load_rows rfl 23 (.tmp 79) rfl b8 36 (u8s r.hash) r.cells 61 (0, 0) _ rfl hT9 (RC.at_hash HRW.out.prev) Tryd.underlying23 rfl (hash_info HHQ.out) ?_)
              | ((with_reducible refine wpList_store_whole rfl 23 (.tmp 5) (.tmp 80) rfl pb (u8s r.hash) (u8s h) 23 rfl rfl hP9 (by rw [u8s_length, u8s_length, HHQ.out, HHL.out]) (hash_info HHQ.out) (u8s_one _) ?_); intro w10 hU10; have hT10 := (hU10.out.other _ HB8N.out.1).trans hT9; have ck1 : w10.cell? ⟨b8, 1, none⟩ = some (.int .i64 r.kind) := (by rw [cell_of_row w10 b8 1 _ _ _ hT10]; rfl); have ck3 : w10.cell? ⟨b8, 3, none⟩ = some (.string r.body) := (by rw [cell_of_row w10 b8 3 _ _ _ hT10]; rfl); have HC10 := Lib.hid (HC9.out.setP hU10.out); clear hP9 hT9))
            refine (rread_any r.body _ (Nat.le_trans HRW.out.body (by decide))).mono ?_
            rintro e w11 ⟨rfl, hb11⟩
            rw [HRD.out]
            simp only [txOf, errOf]
            have hz11 : (w11.alloc (.cells Tryd.zeroCells25 25)).heap[w11.heap.size]? = some (.cells zlTx.toArray 25 (0, 0)) := heap_alloc_new w11 _
            have HC11 := Lib.hid (HC10.out.next hb11)
            clear hb11 hT10 ck1 ck3
            go_wp2_with ((with_reducible refine wpList_store_whole rfl 25 (.tmp 10) (.tmp 88) rfl w11.heap.size t.cells zlTx 25 rfl rfl hz11 HTL.out (tx_info HTW.out) (start_one _) ?_); intro w12 hU12; have hT12 := hU12.out.at_; have HC12 := Lib.hid (HC11.out.next (hU12.out.below (bw_alloc (Below.refl w11.heap.size w11) _) (Nat.le_refl _))); clear hz11)
            generalize w11.heap.size = b10 at *
            have c0 : w12.cell? ⟨b10, 0, none⟩ = some (.int .i64 fr) := by rw [← HFR.out, cell_of_row w12 b10 0 _ _ _ hT12]; rfl
            have c1 : w12.cell? ⟨b10, 1, none⟩ = some (.int .i64 nn) := by rw [← HNO.out, cell_of_row w12 b10 1 _ _ _ hT12]; rfl
            have cn : w12.cell? ⟨nb, fr, none⟩ = some (.int .i64 nn) := by rw [cell_of_row w12 nb fr _ _ _ HC12.out.n, List.getElem?_toArray]; exact HNG.out
            have HNBL : Hid (nb < w12.heap.size) := show _ < _ from block_lt HC12.out.n
            have HBTL : Hid (b10 < w12.heap.size) := show _ < _ from block_lt hT12
            refine wp_region_classW (fun W => Below w12.heap.size w12 W ∧ W.cell? ⟨b10, 0, none⟩ = some (.int .i64 fr) ∧ W.cell? ⟨b10, 1, none⟩ = some (.int .i64 nn) ∧ W.cell? ⟨nb, fr, none⟩ = some (.int .i64 nn)) (by kernel_rfl) (by kernel_rfl) ⟨(Below.refl _ _).drew, c0, c1, cn⟩ ?_
            refine WQ.gen (v := ?_) (by kernel_rfl) ?_ ?_
            rotate_left
            · intro W hC
              go_simp
              try with_reducible rfl
            refine WQ.eq (a' := ?_) ?_ ?_
            rotate_left
            · try simp only [Act.put, List.setIfInBounds_toArray, List.set_cons_zero, List.set_cons_succ]
              exact rfl
            refine WQ.gen (v := ?_) (by kernel_rfl) ?_ ?_
            rotate_left
            · intro W hC
              go_simp
              try with_reducible rfl
            refine WQ.eq (a' := ?_) ?_ ?_
            rotate_left
            · try simp only [Act.put, List.setIfInBounds_toArray, List.set_cons_zero, List.set_cons_succ]
              exact rfl
            refine WQ.gen (v := ?_) (by kernel_rfl) ?_ ?_
            rotate_left
            · intro W hC
              go_simp
              try with_reducible rfl
            refine WQ.eq (a' := ?_) ?_ ?_
            rotate_left
            · try simp only [Act.put, List.setIfInBounds_toArray, List.set_cons_zero, List.set_cons_succ]
              exact rfl
            refine WQ.gen (v := ?_) (by kernel_rfl) ?_ ?_
            rotate_left
            · intro W hC
              go_simp
              try with_reducible rfl
            refine WQ.eq (a' := ?_) ?_ ?_
            rotate_left
            · try simp only [Act.put, List.setIfInBounds_toArray, List.set_cons_zero, List.set_cons_succ]
              exact rfl
            refine WQ.gen (v := ?_) (by kernel_rfl) ?_ ?_
            rotate_left
            · intro W hC
              go_simp
              try with_reducible rfl
            refine WQ.eq (a' := ?_) ?_ ?_
            rotate_left
            · try simp only [Act.put, List.setIfInBounds_toArray, List.set_cons_zero, List.set_cons_succ]
              exact rfl
            refine WQ.gen (v := ?_) (by kernel_rfl) ?_ ?_
            rotate_left
            · intro W hC
              go_simp
              try with_reducible rfl
            refine WQ.eq (a' := ?_) ?_ ?_
            rotate_left
            · try simp only [Act.put, List.setIfInBounds_toArray, List.set_cons_zero, List.set_cons_succ]
              exact rfl
            refine WQ.gen (v := ?_) (by kernel_rfl) ?_ ?_
            rotate_left
            · intro W hC
              go_simp
              try with_reducible rfl
            refine WQ.eq (a' := ?_) ?_ ?_
            rotate_left
            · try simp only [Act.put, List.setIfInBounds_toArray, List.set_cons_zero, List.set_cons_succ]
              exact rfl
            refine WQ.gen (v := ?_) (by kernel_rfl) ?_ ?_
            rotate_left
            · intro W hC
              go_simp
              try with_reducible rfl
            refine WQ.eq (a' := ?_) ?_ ?_
            rotate_left
            · try simp only [Act.put, List.setIfInBounds_toArray, List.set_cons_zero, List.set_cons_succ]
              exact rfl
            refine WQ.gen (v := ?_) (by kernel_rfl) ?_ ?_
            rotate_left
            · intro W hC
              go_simp
              try with_reducible rfl
            refine WQ.eq (a' := ?_) ?_ ?_
            rotate_left
            · try simp only [Act.put, List.setIfInBounds_toArray, List.set_cons_zero, List.set_cons_succ]
              exact rfl
            refine WQ.gen (v := ?_) (by kernel_rfl) ?_ ?_
            rotate_left
            · intro W hC
              go_simp
              try with_reducible rfl
            refine WQ.eq (a' := ?_) ?_ ?_
            rotate_left
            · try simp only [Act.put, List.setIfInBounds_toArray, List.set_cons_zero, List.set_cons_succ]
              exact rfl
            refine WQ.gen (v := ?_) (by kernel_rfl) ?_ ?_
            rotate_left
            · intro W hC
              go_simp
              try with_reducible rfl
            refine WQ.eq (a' := ?_) ?_ ?_
            rotate_left
            · try simp only [Act.put, List.setIfInBounds_toArray, List.set_cons_zero, List.set_cons_succ]
              exact rfl
            refine WQ.gen (v := ?_) (by kernel_rfl) ?_ ?_
            rotate_left
            · intro W hC
              go_simp
              try with_reducible rfl
            refine WQ.eq (a' := ?_) ?_ ?_
            rotate_left
            · try simp only [Act.put, List.setIfInBounds_toArray, List.set_cons_zero, List.set_cons_succ]
              exact rfl
            refine WQ.gen (v := ?_) (by kernel_rfl) ?_ ?_
            rotate_left
            · intro W hC
              go_simp
              try with_reducible rfl
            refine WQ.eq (a' := ?_) ?_ ?_
            rotate_left
            · try simp only [Act.put, List.setIfInBounds_toArray, List.set_cons_zero, List.set_cons_succ]
              exact rfl
            refine WQ.load (by kernel_rfl) 25 (.tmp 10) rfl b10 0 t.cells _ rfl (fun W hC => range_row (keep_row hC.1 hT12) id_at) Tryd.underlying25 rfl (tx_info HTW.out) ?_
            refine WQ.eq (a' := ?_) ?_ ?_
            rotate_left
            · try simp only [Act.put, List.setIfInBounds_toArray, List.set_cons_zero, List.set_cons_succ]
              exact rfl
            refine WQ.call (f := 28) (args := #[.agg t.cells.toArray]) (v := .int .i64 0) (by kernel_rfl) (fun W hC => ?_) (fun W hC => ?_) ?_
            · go_simp
              try with_reducible rfl
            · exact (rsigned_any t W HTW.out).mono (fun e W' h => ⟨h.1.trans (by rw [HSG.out]), bw_call hC.1 h.2, (h.2.cell (block_of_cell hC.2.1)).trans hC.2.1, (h.2.cell (block_of_cell hC.2.2.1)).trans hC.2.2.1, (h.2.cell (block_of_cell hC.2.2.2)).trans hC.2.2.2⟩)
            refine WQ.eq (a' := ?_) ?_ ?_
            rotate_left
            · try simp only [Act.put, List.setIfInBounds_toArray, List.set_cons_zero, List.set_cons_succ]
              exact rfl
            refine WQ.gen (v := ?_) (by kernel_rfl) ?_ ?_
            rotate_left
            · intro W hC
              go_simp
              try with_reducible rfl
            refine WQ.eq (a' := ?_) ?_ ?_
            rotate_left
            · try simp only [Act.put, List.setIfInBounds_toArray, List.set_cons_zero, List.set_cons_succ]
              exact rfl
            refine WQ.gen (v := ?_) (by kernel_rfl) ?_ ?_
            rotate_left
            · intro W hC
              go_simp
              try with_reducible rfl
            refine WQ.eq (a' := ?_) ?_ ?_
            rotate_left
            · try simp only [Act.put, List.setIfInBounds_toArray, List.set_cons_zero, List.set_cons_succ]
              exact rfl
            refine WQ.nil ?_
            intro w13 hC13
            have HC13 := Lib.hid (HC12.out.next hC13.1)
            have d0 := hC13.2.1
            have dn := hC13.2.2.2
            have dz : w13.frozen? ⟨nb, fr, none⟩ = false := frozen_of_row w13 nb fr _ _ HC13.out.n
            clear hC13 c0 c1 cn hT12
            go_wp2_with fail
            go_roundw
            case rel => exact ⟨j + 1, by omega, by go_num, show ChAt _ _ _ _ _ _ _ _ _ _ _ from by rw [HSF.out.2.2.2.1, HCNT.out]; exact HC13.out.setN fr (nn + 1)⟩
            case measure => simp [intOf]; omega
          · have hd : (r.kind == 1) = false := by simpa using hk
            have HCNT := Lib.hid hcn
            clear hk hcn
            go_wp2_with (first
              | (with_reducible refine wpList_load_rows rfl 23 (.tmp 79) rfl b8 36 (u8s r.hash) r.cells 61 (0, 0) _ rfl hT9 (RC.at_hash HRW.out.prev) Tryd.underlying23 rfl (hash_info HHQ.out) ?_)
              | ((with_reducible refine wpList_store_whole rfl 23 (.tmp 5) (.tmp 80) rfl pb (u8s r.hash) (u8s h) 23 rfl rfl hP9 (by rw [u8s_length, u8s_length, HHQ.out, HHL.out]) (hash_info HHQ.out) (u8s_one _) ?_); intro w10 hU10; have hT10 := (hU10.out.other _ HB8N.out.1).trans hT9; have ck1 : w10.cell? ⟨b8, 1, none⟩ = some (.int .i64 r.kind) := (by rw [cell_of_row w10 b8 1 _ _ _ hT10]; rfl); have HC10 := Lib.hid (HC9.out.setP hU10.out); clear hP9 hT9))
            go_roundw
            case rel => exact ⟨j + 1, by omega, by go_num, show ChAt _ _ _ _ _ _ _ _ _ _ _ from by rw [HSF.out.2.2.2.1, HCNT.out]; exact HC10.out⟩
            case measure => simp [intOf]; omega
    · obtain rfl : n = j := by omega
      have HEND : Hid (headOf rs = headOf (rs.take n)) := show _ = _ by rw [HN.out, List.take_length]
      have HHL : Hid ((headOf rs).length = 32) := show _ = _ from headOf_length HWF.out
      have hC0 := HC0.out
      rw [← HEND.out] at hC0
      obtain ⟨h, hh⟩ : ∃ h, h = headOf rs := ⟨_, rfl⟩
      have HHD := Lib.hid (fun (W : World) (hL : LgAt W (w.heap.size + 1) w.heap.size sl rs (cnt rs)) => head_any _ _ _ _ _ W hL)
      rw [← hh] at hC0 HHL HHD
      have HCN := Lib.hid hC0
      clear hC0 hh
      go_wp2_with fail
      refine wp_region_classW (fun W => ChAt w W w2.heap.size w.heap.size sl (.slice qa n ca) pb nb rs h (cnt (rs.take n))) (by kernel_rfl) (by kernel_rfl) (HCN.out.next (Below.refl _ _).drew) ?_
      refine WQ.gen (v := ?_) (by kernel_rfl) ?_ ?_
      rotate_left
      · intro W hC
        go_simp
        try with_reducible rfl
      refine WQ.eq (a' := ?_) ?_ ?_
      rotate_left
      · try simp only [Act.put, List.setIfInBounds_toArray, List.set_cons_zero, List.set_cons_succ]
        exact rfl
      refine WQ.call (f := 44) (args := #[.pointer (some ⟨w.heap.size, 0, none⟩)]) (v := .agg (u8s h).toArray) (by kernel_rfl) (fun W hC => ?_) (fun W hC => ?_) ?_
      · go_simp
        try with_reducible rfl
      · exact (HHD.out W hC.lg).mono (fun e W' h => ⟨h.1, hC.next h.2⟩)
      refine WQ.eq (a' := ?_) ?_ ?_
      rotate_left
      · try simp only [Act.put, List.setIfInBounds_toArray, List.set_cons_zero, List.set_cons_succ]
        exact rfl
      refine WQ.load (by kernel_rfl) 23 (.tmp 5) rfl pb 0 (u8s h) _ rfl (fun W hC => range_row hC.p id_at) Tryd.underlying23 rfl (hash_info HHL.out) ?_
      refine WQ.eq (a' := ?_) ?_ ?_
      rotate_left
      · try simp only [Act.put, List.setIfInBounds_toArray, List.set_cons_zero, List.set_cons_succ]
        exact rfl
      refine WQ.bin (by kernel_rfl) .eql 23 23 (.tmp 115) (.tmp 116) rfl (.agg (u8s h).toArray) (.agg (u8s h).toArray) (.bool true) rfl rfl (hash_eqG _ _ _ _ _) (fun w => (hash_eql HHL.out HHL.out w).trans (by rw [decide_eq_true (rfl : h = h)])) ?_
      refine WQ.eq (a' := ?_) ?_ ?_
      rotate_left
      · try simp only [Act.put, List.setIfInBounds_toArray, List.set_cons_zero, List.set_cons_succ]
        exact rfl
      refine WQ.gen (v := ?_) (by kernel_rfl) ?_ ?_
      rotate_left
      · intro W hC
        go_simp
        try with_reducible rfl
      refine WQ.eq (a' := ?_) ?_ ?_
      rotate_left
      · try simp only [Act.put, List.setIfInBounds_toArray, List.set_cons_zero, List.set_cons_succ]
        exact rfl
      refine WQ.nil ?_
      intro w9 hC9
      have HB9 := Lib.hid hC9.b
      clear hC9
      go_wp2_with fail
      go_ret
      exact ⟨rfl, HB9.out⟩
end Go.Proofs.YtckfdmkjeocadaaDoor
