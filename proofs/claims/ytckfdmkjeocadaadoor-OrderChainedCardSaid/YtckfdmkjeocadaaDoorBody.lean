/- tx.Body, its put: what the calls do. -/
import Derived.Test.YtckfdmkjeocadaaDoorTx
namespace Go.Proofs.YtckfdmkjeocadaaDoor
open Go.RowKit
/-- a captured list of strings: its cell, and the strings that it owns -/
structure LAt (w : World) (bl : Nat) (v : Value) (ls : List ByteArray) : Prop where
  cell : w.heap[bl]? = some (.cells #[v] 80 (0, 0))
  own : w.ownsRow (bl + 1) 9 1 v ls.length (strs ls)
theorem own_ne {w : World} {base size n : Nat} {e : TypeId} {v : Value} {xs : List Value} (h : w.ownsRow base e size v n xs) {b : Nat} {cs : Array Value} {t : TypeId} {fr : Nat × Nat} (hb : w.heap[b]? = some (.cells cs t fr)) (ht : t ≠ e) : some b ≠ v.ownBlock := by
  rcases h.2 with ⟨rfl, _⟩ | ⟨g, cap, cur, rfl, _, hg, _⟩
  · simp [Value.ownBlock]
  · intro hx
    obtain rfl : b = g := by simpa [Value.ownBlock] using hx
    rw [hg] at hb
    simp at hb
    exact ht hb.2.1.symm
theorem LAt.below {w w' : World} {bl : Nat} {v : Value} {ls : List ByteArray} (h : LAt w bl v ls) (hb : Below w.heap.size w w') : LAt w' bl v ls :=
  ⟨(hb.block _ (block_lt h.cell)).trans h.cell, own_below h.own hb (Nat.le_refl _)⟩
theorem LAt.alloc {w : World} {bl : Nat} {v : Value} {ls : List ByteArray} (h : LAt w bl v ls) (o : Obj) : LAt (w.alloc o) bl v ls := h.below (bw_alloc (Below.refl _ _) _)
theorem own_shape {w : World} {base n size : Nat} {e : TypeId} {v : Value} {xs : List Value} (h : w.ownsRow base e size v n xs) : ∃ q m c, v = .slice q m c := by
  rcases h.2 with ⟨rfl, _⟩ | ⟨g, cap, cur, rfl, _⟩
  · exact ⟨_, _, _, rfl⟩
  · exact ⟨_, _, _, rfl⟩
/-- append(l, x) of one string that has just been boxed, l owned -/
theorem wpList_app_one {P : Program} {W : World} {ops : Array Oper} {rest : List Oper} {o : Oper} {a : Act} {Q : Exit → Act → World → Prop} (hgd : o.guard = none) (s x : Operand) (t e : TypeId)
    (ho : o.op = .call { callee := .builtin .append, args := #[s, x], argTypes := #[t, t] })
    (ht : P.underlying t = some (.slice e)) (i : TypeInfo) (hi : P.info? e = some i) (z : Value) (hz : i.zero = some z) (hs1 : i.size = 1) (hzs : z.cells.size = 1) (bytes : Nat) (hby : i.bytes = bytes)
    (base : Nat) (v : Value) (n : Nat) (xs : List Value) (hs : a.eval s = v) (hown : W.ownsRow base e 1 v n xs)
    (u : Value) (h1 : u.oneCell' = true) (hx : a.eval x = .slice (some ⟨W.heap.size, 0, none⟩) 1 1) (tt : TypeId) (hn : (n + 1) * bytes ≤ 140737488355328) (hn2 : n + 1 ≤ 1099511627776) (hbase : base ≤ W.heap.size)
    (h : ∀ v' w', Hid (w'.ownsRow base e 1 v' (n + 1) (xs ++ [u])) → Hid ((W.alloc (.cells #[u] tt)).grownBy w' v.ownBlock) → wpList P ops Q rest (a.put o.dst v') w') : wpList P ops Q (o :: rest) a (W.alloc (.cells #[u] tt)) := by
  refine wpList_append_own (W.alloc (.cells #[u] tt)) hgd s x t ho base e i z 1 bytes ht hi hz hs1 hby hzs (by decide) v n xs hs (hown.alloc _) ⟨W.heap.size, 0, none⟩ 1 1 [u] hx rfl ?_ ?_ (by unfold maxLen; omega) hn (by simp; omega) ?_
  · intro j y hj
    cases j with
    | zero =>
      simp at hj
      subst hj
      show (W.alloc (.cells #[u] tt)).cell? ⟨W.heap.size, 0, none⟩ = _
      rw [cell_of_row _ W.heap.size 0 _ _ _ (heap_alloc_new W _)]
      rfl
    | succ j => simp at hj
  · intro y hy
    simp at hy
    subst hy
    exact h1
  · intro v' w' hown' hg _
    exact h v' w' hown' hg
/-- the list's cell behind the append and the store -/
theorem LAt.put {W w' : World} {bl : Nat} {v v' : Value} {ls : List ByteArray} {s : ByteArray} {t : TypeId} (h : LAt W bl v ls) (ho : w'.ownsRow (bl + 1) 9 1 v' (ls.length + 1) (strs ls ++ [.string s])) (hg : (W.alloc (.cells #[.string s] t)).grownBy w' v.ownBlock) :
    w'.heap[bl]? = some (.cells #[v] 80 (0, 0)) ∧ LAt (w'.setCell ⟨bl, 0, none⟩ v') bl v' (ls ++ [s]) := by
  have h0 := (h.alloc (.cells #[.string s] t))
  have h1 : w'.heap[bl]? = some (.cells #[v] 80 (0, 0)) := (hg.block bl (block_lt h0.cell) (own_ne h.own h.cell (by decide))).trans h0.cell
  refine ⟨h1, one_setCell h1, ?_⟩
  rw [show strs (ls ++ [s]) = strs ls ++ [.string s] by rw [strs_app, strs_one], List.length_append, List.length_singleton]
  exact ownsRow_setCell_other ho (Ne.symm (own_ne ho h1 (by decide))) _
theorem LAt.put_other {W w' : World} {bl b : Nat} {v v' : Value} {ls : List ByteArray} {s : ByteArray} {t t2 : TypeId} {cs : Array Value} {fr : Nat × Nat} (h : LAt W bl v ls) (hg : (W.alloc (.cells #[.string s] t)).grownBy w' v.ownBlock)
    (hb : W.heap[b]? = some (.cells cs t2 fr)) (ht : t2 ≠ 9) (hne : b ≠ bl) : (w'.setCell ⟨bl, 0, none⟩ v').heap[b]? = some (.cells cs t2 fr) := by
  have h1 : w'.heap[b]? = some (.cells cs t2 fr) := (hg.block b (by have := block_lt hb; simp; omega) (own_ne h.own hb ht)).trans ((Below.heap_alloc _ _ _ (block_lt hb)).trans hb)
  rw [← h1]
  exact heap_setCell_other _ _ _ _ hne
theorem LAt.put_below {W w' : World} {bl : Nat} {v v' : Value} {ls : List ByteArray} {s : ByteArray} {t : TypeId} (h : LAt W bl v ls) (hg : (W.alloc (.cells #[.string s] t)).grownBy w' v.ownBlock) :
    Below bl W (w'.setCell ⟨bl, 0, none⟩ v') := by
  have hlt := block_lt h.cell
  refine Below.setCell ((((Below.refl bl W).alloc (by omega) _)).grown hg (by simp; omega) (fun k hk => ?_)) (p := ⟨bl, 0, none⟩) (Nat.le_refl _) _
  have := own_blk h.own k hk.symm.symm
  omega
def ints (l : List Nat) : List Value := l.map fun (y : Nat) => Value.int .i64 (y : Int)
theorem ints_at {w : World} {bn : Nat} {l : List Nat} {t : TypeId} {fr : Nat × Nat} (h : w.heap[bn]? = some (.cells (ints l).toArray t fr)) {k : Nat} (hk : k < l.length) : w.cell? ⟨bn, k, none⟩ = some (.int .i64 (l[k]'hk)) := by
  rw [cell_of_row w bn k _ _ _ h, List.getElem?_toArray]
  simp [ints, List.getElem?_eq_getElem hk]
theorem numSs_snoc (l : List Nat) (k : Nat) (h : k < l.length) : numSs (l.take (k + 1)) = numSs (l.take k) ++ [numS (l[k]'h)] := by
  unfold numSs
  rw [List.take_succ_eq_append_getElem h, List.map_append]
  rfl
theorem own_len {_w : World} {bl : Nat} {_v : Value} {ls : List ByteArray} {x : ByteArray} {w' : World} {v' : Value} (h : w'.ownsRow (bl + 1) 9 1 v' (ls.length + 1) (strs ls ++ [.string x])) : w'.ownsRow (bl + 1) 9 1 v' (ls.length + 1) (strs ls ++ [.string x]) := h
set_option maxHeartbeats 1000000 in
set_option maxRecDepth 4000 in
theorem put_any (l : List Nat) (ls : List ByteArray) (w : World) (bl bn : Nat) (v : Value) (hl : ∀ k (h : k < l.length), l[k]'h ≤ 1099511627776) (hk : l.length ≤ 16) (hls : ls.length ≤ 1000)
    (hL : LAt w bl v ls) (hn : w.heap[bn]? = some (.cells (ints l).toArray 3 (0, 0))) :
    Calls Tryd.prog 60 #[.slice (some ⟨bn, 0, none⟩) l.length l.length, .pointer (some ⟨bl, 0, none⟩)] w fun e w' => e = .returned (.tuple #[]) ∧ (∃ v', LAt w' bl v' (ls ++ numSs l)) ∧ Below bl w w' := by
  have HL := Lib.hid hl
  have HA := Lib.hid hL
  have HN := Lib.hid hn
  have hne : bn ≠ bl := by
    rintro rfl
    have := hL.cell
    rw [hn] at this
    simp at this
  clear hl hL hn
  go_enter Tryd.func60, Tryd.ntmps60
  go_wp2_with fail
  go_loopw [9] (fun i wr => ∃ (k : Nat) (u : Value), k ≤ l.length ∧ i = .int .i64 k ∧ Hid (LAt wr bl u (ls ++ numSs (l.take k))) ∧ Hid (wr.heap[bn]? = some (.cells (ints l).toArray 3 (0, 0))) ∧ Hid (Below bl w wr)) (fun i _ => l.length - (intOf i).toNat)
  case atStart => exact ⟨0, v, by omega, rfl, show _ from by have := HA.out; rw [List.take_zero, show numSs [] = [] from rfl, List.append_nil]; exact this, HN.out, Below.refl _ _⟩
  case round =>
    obtain ⟨k, u, hk2, rfl, hA, hN, hB⟩ := hrel
    by_cases hlt : k < l.length
    · have hc := ints_at hN.out hlt
      have hx := HL.out k hlt
      have hlen : (ls ++ numSs (l.take k)).length = ls.length + k := by rw [List.length_append, numSs, List.length_map, List.length_take, Nat.min_eq_left hk2]
      have HLEN := Lib.hid hlen
      have hcb := cell_of_one hA.out.cell
      clear hlen
      go_wp2_with fail
      refine (number_any _ _ (by omega) (by omega)).mono ?_
      rintro e w2 ⟨rfl, hb2⟩
      have HA2 := Lib.hid (hA.out.below hb2)
      have HN2 := Lib.hid ((hb2.block _ (block_lt hN.out)).trans hN.out)
      have HB2 := Lib.hid (hB.out.trans (hb2.mono (by have := block_lt hA.out.cell; omega)))
      have hcb2 := cell_of_one HA2.out.cell
      clear hb2 hcb
      have hsz : (ls ++ numSs (l.take k)).length + 1 ≤ 2000 := by rw [HLEN.out]; omega
      have hbz := Nat.succ_le_of_lt (block_lt HA2.out.cell)
      go_wp2_with ((at_builtin; refine wpList_app_one rfl (.tmp 18) (.tmp 20) 80 9 rfl Tryd.underlying80 _ str_info (.string ByteArray.empty) rfl rfl rfl 16 rfl (bl + 1) u _ _ rfl HA2.out.own (.string (numS l[k])) rfl rfl 9 (by omega) (by omega) hbz ?_); intro v3 w3 hO3 hG3; obtain ⟨q3, n3, c3, rfl⟩ := own_shape hO3.out; have hP := HA2.out.put hO3.out hG3.out; have hc3 := cell_of_one hP.1; have hf3 := free_of_one hP.1; have HP := Lib.hid hP.2; have HQ := Lib.hid (HA2.out.put_other (v' := .slice q3 n3 c3) hG3.out HN2.out (by decide) hne); have HR := Lib.hid (HB2.out.trans (HA2.out.put_below (v' := .slice q3 n3 c3) hG3.out)); clear hP)
      go_roundw
      case rel => exact ⟨k + 1, .slice q3 n3 c3, by omega, by go_num, show _ from by have := HP.out; rw [List.append_assoc, ← numSs_snoc l k hlt] at this; exact this, HQ, HR⟩
      case measure => simp [intOf]; omega
    · obtain rfl : k = l.length := by omega
      go_wp2_with fail
      go_end0
      refine ⟨rfl, ⟨u, ?_⟩, hB.out⟩
      have := hA.out
      rw [List.take_length] at this
      exact this
theorem tx_info {t : TX} (ht : t.wf) : (Tryd.prog.info? 25).map (·.size) = some t.cells.length := by rw [t.cells_length ht.by_ ht.tag]; kernel_rfl
theorem TX.ints_nums {t : TX} (h : t.chk = 0) : ints t.nums = [.int .i64 t.frm, .int .i64 t.nonce, .int .i64 t.fee, .int .i64 t.to_] := by
  have h2 := TX.chk_zero h
  simp only [ints, TX.nums, List.map_cons, List.map_nil, Int.toNat_of_nonneg (show 0 ≤ t.frm by omega), Int.toNat_of_nonneg (show 0 ≤ t.nonce by omega), Int.toNat_of_nonneg (show 0 ≤ t.fee by omega), Int.toNat_of_nonneg (show 0 ≤ t.to_ by omega)]
theorem TX.ints_lnums {t : TX} (h : t.chk = 0) (hl : t.lane = true) : ints t.lnums = [.int .i64 t.round, .int .i64 t.turn] := by
  have h2 := TX.lane_zero_ok (TX.chk_zero h).2.2.2.1 hl
  simp only [ints, TX.lnums, List.map_cons, List.map_nil, Int.toNat_of_nonneg (show 0 ≤ t.round by omega), Int.toNat_of_nonneg (show 0 ≤ t.turn by omega)]
theorem mem_get {p : Nat → Prop} {l : List Nat} (h : ∀ x ∈ l, p x) : ∀ k (hk : k < l.length), p (l[k]'hk) := fun _k hk => h _ (List.getElem_mem hk)
theorem TxAt.below {w wr w' : World} {t : TX} (h : TxAt w wr t) {B : Nat} (hb : Below B wr w') (hB : w.heap.size < B) (h2 : Below w.heap.size w w') : TxAt w w' t := ⟨h2, (hb.block _ hB).trans h.2⟩
set_option maxHeartbeats 1000000 in
set_option maxRecDepth 4000 in
theorem body_any (t : TX) (w : World) (ht : t.wf) :
    Calls Tryd.prog 16 #[.agg t.cells.toArray] w fun e w' => e = .returned (.tuple #[.string t.bodyS, .int .i64 t.chk]) ∧ Below w.heap.size w w' := by
  have HT := Lib.hid ht
  have hA0 := TxAt.start w t
  have hg0 := hA0.2
  have HA0 := Lib.hid hA0
  clear hA0 ht
  obtain ⟨k, hk⟩ : ∃ k, k = t.chk := ⟨_, rfl⟩
  obtain ⟨b, hb⟩ : ∃ b, b = t.bodyS := ⟨_, rfl⟩
  have HK := Lib.hid hk
  have HBS := Lib.hid hb
  rw [← hk, ← hb]
  clear hb
  by_cases hk0 : k = 0
  · subst hk0
    have hck : t.chk = 0 := hk.symm
    have HIN := Lib.hid (TX.ints_nums hck)
    have HNL := Lib.hid (mem_get (TX.nums_le hck))
    have HCK := Lib.hid hck
    have hbe : Hid (b = bstr (encList t.parts)) := show _ = _ by rw [HBS.out, TX.bodyS, if_pos hck]; rfl
    clear hk hck
    go_enter Tryd.func16, Tryd.ntmps16
    go_wp2_with (with_reducible refine wpList_load_rows rfl 25 (.tmp 1) rfl w.heap.size 0 t.cells t.cells 25 (0, 0) _ rfl hg0 id_at Tryd.underlying25 rfl (tx_info HT.out) ?_)
    refine (check_any t _ HT.out).mono ?_
    rintro e w1 ⟨rfl, hb1⟩
    rw [← HK.out]
    have hlt : w.heap.size < (w.alloc (.cells t.cells.toArray 25)).heap.size := by simp
    have hA1 := HA0.out.below hb1 hlt (bw_call (bw_alloc (Below.refl _ _) _) hb1)
    have hA2 : TxAt w (w1.alloc (.cells #[.slice none 0 0] 80)) t := hA1.below (bw_alloc (Below.refl w1.heap.size w1) _) (Nat.lt_of_lt_of_le hlt hb1.size) (bw_alloc hA1.1 _)
    obtain ⟨c0, c1, c2, c3, c4, c5, c6, c7⟩ := hA2.cells
    have HA2 := Lib.hid hA2
    have hW1 : w.heap.size < w1.heap.size := Nat.lt_of_lt_of_le hlt hb1.size
    clear hA1 hA2 hb1
    go_wp2_with fail
    have hL0 : LAt (w1.alloc (.cells #[.slice none 0 0] 80)) w1.heap.size (.slice none 0 0) [] := ⟨heap_alloc_new _ _, own_nil _ _ _ _⟩
    have hN0 : ((w1.alloc (.cells #[.slice none 0 0] 80)).alloc (.cells (ints t.nums).toArray 3)).heap[w1.heap.size + 1]? = some (.cells (ints t.nums).toArray 3 (0, 0)) := heap_alloc2_new w1 _ _
    rw [HIN.out] at hN0
    have hA3 := HA2.out.below (bw_alloc (Below.refl _ _) (.cells #[.int .i64 t.frm, .int .i64 t.nonce, .int .i64 t.fee, .int .i64 t.to_] 3)) (by simp; omega) (bw_alloc HA2.out.1 _)
    refine (put_any t.nums [] _ w1.heap.size (w1.heap.size + 1) (.slice none 0 0) HNL.out (show 4 ≤ 16 by decide) (by decide) (hL0.alloc _) (by rw [HIN.out]; exact hN0)).mono ?_
    rintro e w2 ⟨rfl, ⟨v2, hL2⟩, hb2⟩
    have hA4 := hA3.below hb2 hW1 (hA3.1.trans (hb2.mono (by omega)))
    rw [List.nil_append] at hL2
    obtain ⟨q2, n2, k2, rfl⟩ := own_shape hL2.own
    have hc2 := cell_of_one hL2.cell
    have HL2 := Lib.hid hL2
    have HA4 := Lib.hid hA4
    clear c0 c1 c2 c3 c4 c5 c6 c7
    obtain ⟨c0, c1, c2, c3, c4, c5, c6, c7⟩ := hA4.cells
    have hbz := Nat.succ_le_of_lt (block_lt hL2.cell)
    clear hL0 hN0 hA3 hb2 hL2 hA4
    go_wp2_with ((at_builtin; refine wpList_app_one rfl (.tmp 24) (.tmp 27) 80 9 rfl Tryd.underlying80 _ str_info (.string ByteArray.empty) rfl rfl rfl 16 rfl (w1.heap.size + 1) _ _ _ rfl HL2.out.own (.string t.data) rfl rfl 9 (show (4 + 1) * 16 ≤ _ by decide) (show 4 + 1 ≤ _ by decide) hbz ?_); intro v3 w3 hO3 hG3; obtain ⟨q3, n3, k3, rfl⟩ := own_shape hO3.out; have hP := HL2.out.put hO3.out hG3.out; have hc3 := cell_of_one hP.1; have hf3 := free_of_one hP.1; have HP := Lib.hid hP.2; have hA5 := HA4.out.below (HL2.out.put_below (v' := .slice q3 n3 k3) hG3.out) hW1 (HA4.out.1.trans ((HL2.out.put_below (v' := .slice q3 n3 k3) hG3.out).mono (Nat.le_of_lt hW1))); have hc4 := cell_of_one hP.2.cell; clear c0 c1 c2 c3 c4 c5 c6 c7; obtain ⟨c0, c1, c2, c3, c4, c5, c6, c7⟩ := hA5.cells; have HA5 := Lib.hid hA5; clear hP hA5 hc2)
    rotate_left
    · have hln : t.lane = false := by assumption
      have hpl : t.parts = numSs t.nums ++ [t.data] := by rw [TX.parts, if_neg (by rw [hln]; decide), List.append_nil]
      have hrd : RdStrs (w3.setCell ⟨w1.heap.size, 0, none⟩ (.slice q3 n3 k3)) (.slice q3 n3 k3) t.parts := by rw [hpl]; exact RdStrs.of_own HP.out.own (show 4 + 1 ≤ _ by decide) (Nat.lt_of_le_of_lt (Nat.zero_le _) (block_lt HP.out.cell))
      refine (list_ok _ t.parts _ hrd (Nat.le_trans TX.parts_length (by decide)) (Nat.le_trans (TX.parts_tot HCK.out) (by decide))).mono ?_
      rintro e w5 ⟨rfl, hb5⟩
      have HB5 := Lib.hid (bw_call HA5.out.1 hb5)
      clear hb5 hln hpl hrd
      go_wp2_with fail
      go_ret2
      rw [hbe.out]
      exact ⟨rfl, HB5.out⟩
    · have hln : t.lane = true := by assumption
      have HIL := Lib.hid (TX.ints_lnums HCK.out hln)
      have hN0 : ((w3.setCell ⟨w1.heap.size, 0, none⟩ (.slice q3 n3 k3)).alloc (.cells (ints t.lnums).toArray 3)).heap[w3.heap.size]? = some (.cells (ints t.lnums).toArray 3 (0, 0)) := by
        have := heap_alloc_new (w3.setCell ⟨w1.heap.size, 0, none⟩ (.slice q3 n3 k3)) (.cells (ints t.lnums).toArray 3)
        rw [show (w3.setCell ⟨w1.heap.size, 0, none⟩ (.slice q3 n3 k3)).heap.size = w3.heap.size by simp [World.setCell]] at this
        exact this
      rw [HIL.out] at hN0
      refine (put_any t.lnums (numSs t.nums ++ [t.data]) _ w1.heap.size w3.heap.size (.slice q3 n3 k3) (mem_get (TX.lnums_le HCK.out hln)) (show 2 ≤ 16 by decide) (show 4 + 1 ≤ 1000 by decide) (HP.out.alloc _) (by rw [HIL.out]; exact hN0)).mono ?_
      rintro e w4 ⟨rfl, ⟨v4, hL4⟩, hb4⟩
      have hpl : t.parts = numSs t.nums ++ [t.data] ++ numSs t.lnums := by rw [TX.parts, if_pos hln]
      rw [← hpl] at hL4
      obtain ⟨q4, n4, k4, rfl⟩ := own_shape hL4.own
      have hc5 := cell_of_one hL4.cell
      have hrd : RdStrs w4 (.slice q4 n4 k4) t.parts := RdStrs.of_own hL4.own (Nat.le_trans TX.parts_length (by decide)) (Nat.lt_of_le_of_lt (Nat.zero_le _) (block_lt hL4.cell))
      have HRD := Lib.hid hrd
      have HB4 := Lib.hid ((bw_alloc HA5.out.1 (.cells #[.int .i64 t.round, .int .i64 t.turn] 3)).trans (hb4.mono (Nat.le_of_lt hW1)))
      clear hL4 hb4 hrd hpl hln hN0 hc4
      go_wp2_with fail
      refine (list_ok _ t.parts _ HRD.out (Nat.le_trans TX.parts_length (by decide)) (Nat.le_trans (TX.parts_tot HCK.out) (by decide))).mono ?_
      rintro e w5 ⟨rfl, hb5⟩
      have HB5 := Lib.hid (bw_call HB4.out hb5)
      clear hb5
      go_wp2_with fail
      go_ret2
      rw [hbe.out]
      exact ⟨rfl, HB5.out⟩
  · have hkb : (k != 0) = true := by simpa using hk0
    have hbe : Hid (b = ByteArray.empty) := show _ = _ by rw [HBS.out, TX.bodyS, if_neg (by rw [← HK.out]; exact hk0)]
    clear hk
    go_enter Tryd.func16, Tryd.ntmps16
    go_wp2_with (with_reducible refine wpList_load_rows rfl 25 (.tmp 1) rfl w.heap.size 0 t.cells t.cells 25 (0, 0) _ rfl hg0 id_at Tryd.underlying25 rfl (tx_info HT.out) ?_)
    refine (check_any t _ HT.out).mono ?_
    rintro e w1 ⟨rfl, hb1⟩
    rw [← HK.out]
    go_wp2_with fail
    go_ret2
    rw [hbe.out]
    exact ⟨rfl, bw_call (bw_alloc (Below.refl _ _) _) hb1⟩
end Go.Proofs.YtckfdmkjeocadaaDoor
