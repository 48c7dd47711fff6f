/- A transaction in plain Lean. tx.number, tx.Check: what the calls do. tx.Body, its put: what the calls do. tx.Text, tx.list: what the calls do. tx.list: what the call does. tx.Read in plain Lean. -/
import Derived.Test.YtckfdmkjeocadaaDoorRowB
import Derived.Test.YtckfdmkjeocadaaDoorNums
import Derived.Test.YtckfdmkjeocadaaDoorSeal
namespace Go.Proofs.YtckfdmkjeocadaaDoor
structure TX where
  frm : Int
  nonce : Int
  fee : Int
  to_ : Int
  data : ByteArray
  lane : Bool
  round : Int
  turn : Int
  by_ : List UInt8
  tag : List UInt8
def i64ok (n : Int) : Prop := -9223372036854775808 ≤ n ∧ n ≤ 9223372036854775807
structure TX.wf (t : TX) : Prop where
  frm : i64ok t.frm
  nonce : i64ok t.nonce
  fee : i64ok t.fee
  to_ : i64ok t.to_
  data : t.data.size ≤ 140737488351232
  round : i64ok t.round
  turn : i64ok t.turn
  by_ : t.by_.length = 32
  tag : t.tag.length = 32
def TX.cells (t : TX) : List Value := [.int .i64 t.frm, .int .i64 t.nonce, .int .i64 t.fee, .int .i64 t.to_, .string t.data, .bool t.lane, .int .i64 t.round, .int .i64 t.turn] ++ (u8s t.by_ ++ u8s t.tag)
theorem TX.cells_length (t : TX) (h1 : t.by_.length = 32) (h2 : t.tag.length = 32) : t.cells.length = 72 := by simp [TX.cells, u8s_length, h1, h2]
theorem TX.at_by {t : TX} : ∀ j v, (u8s t.by_)[j]? = some v → t.cells[8 + j]? = some v := by
  intro j v h
  unfold TX.cells
  rw [List.getElem?_append_right (by simp), List.getElem?_append_left]
  · simpa using h
  · have := (List.getElem?_eq_some_iff.1 h).1
    simpa using this
theorem TX.at_tag {t : TX} (h1 : t.by_.length = 32) : ∀ j v, (u8s t.tag)[j]? = some v → t.cells[40 + j]? = some v := by
  intro j v h
  unfold TX.cells
  rw [List.getElem?_append_right (by simp; omega), List.getElem?_append_right (by simp [u8s_length, h1]; omega)]
  simp only [List.length_cons, List.length_nil, u8s_length, h1]
  rw [show 40 + j - (0 + 1 + 1 + 1 + 1 + 1 + 1 + 1 + 1) - 32 = j by omega]
  exact h
def numOk (n : Int) : Bool := decide (0 ≤ n ∧ n ≤ 1099511627776)
def whoOk (n : Int) : Bool := decide (0 ≤ n ∧ n < 64)
/-- what is wrong with it -/
def TX.chk (t : TX) : Int :=
  if (!whoOk t.frm || !whoOk t.to_) = true then 20
  else if (!numOk t.nonce || !numOk t.fee) = true then 2
  else if (t.lane && (!numOk t.round || !numOk t.turn)) = true then 2
  else if (!t.lane && (t.round != 0 || t.turn != 0 || t.by_ != z32)) = true then 2
  else if 256 < t.data.size then 3 else 0
section
variable {t : TX}
theorem TX.chk_who (h : ¬(((0 ≤ t.frm ∧ t.frm < 64) ∧ 0 ≤ t.to_) ∧ t.to_ < 64)) : t.chk = 20 := by
  unfold TX.chk whoOk
  rw [if_pos]
  simp only [Bool.or_eq_true, Bool.not_eq_true', decide_eq_false_iff_not]
  omega
theorem TX.whos (h : ((0 ≤ t.frm ∧ t.frm < 64) ∧ 0 ≤ t.to_) ∧ t.to_ < 64) : (!whoOk t.frm || !whoOk t.to_) = false := by
  simp only [whoOk, Bool.or_eq_false_iff, Bool.not_eq_false', decide_eq_true_iff]
  omega
theorem TX.chk_num (h : ((0 ≤ t.frm ∧ t.frm < 64) ∧ 0 ≤ t.to_) ∧ t.to_ < 64) (h2 : (numOk t.nonce && numOk t.fee) = false) : t.chk = 2 := by
  unfold TX.chk
  rw [TX.whos h]
  cases h3 : numOk t.nonce <;> cases h4 : numOk t.fee <;> simp_all
theorem TX.chk_lane (h : ((0 ≤ t.frm ∧ t.frm < 64) ∧ 0 ≤ t.to_) ∧ t.to_ < 64) (h1 : numOk t.nonce = true) (h2 : numOk t.fee = true) (h3 : t.lane = true) (h4 : (numOk t.round && numOk t.turn) = false) : t.chk = 2 := by
  unfold TX.chk
  rw [TX.whos h]
  cases h5 : numOk t.round <;> cases h6 : numOk t.turn <;> simp_all
theorem TX.chk_none (h : ((0 ≤ t.frm ∧ t.frm < 64) ∧ 0 ≤ t.to_) ∧ t.to_ < 64) (h1 : numOk t.nonce = true) (h2 : numOk t.fee = true) (h3 : t.lane = false) (h4 : ¬(t.round = 0 ∧ t.turn = 0 ∧ t.by_ = z32)) : t.chk = 2 := by
  unfold TX.chk
  rw [TX.whos h]
  by_cases h5 : t.round = 0 <;> by_cases h6 : t.turn = 0 <;> by_cases h7 : t.by_ = z32 <;> simp_all
theorem TX.chk_none2 (h : ((0 ≤ t.frm ∧ t.frm < 64) ∧ 0 ≤ t.to_) ∧ t.to_ < 64) (h1 : numOk t.nonce = true) (h2 : numOk t.fee = true) (h3 : t.lane = false) (h4 : (!decide (t.round = 0)) = true ∨ (!decide (t.turn = 0)) = true ∨ (!decide (t.by_ = z32)) = true) : t.chk = 2 := by
  refine TX.chk_none h h1 h2 h3 ?_
  rintro ⟨h5, h6, h7⟩
  simp only [h5, h6, h7, decide_true, Bool.not_true, Bool.false_eq_true, or_self] at h4
/-- the lane's words are in order -/
def TX.lok (t : TX) : Prop := if t.lane = true then (numOk t.round && numOk t.turn) = true else t.round = 0 ∧ t.turn = 0 ∧ t.by_ = z32
theorem TX.chk_data (h : ((0 ≤ t.frm ∧ t.frm < 64) ∧ 0 ≤ t.to_) ∧ t.to_ < 64) (h1 : numOk t.nonce = true) (h2 : numOk t.fee = true) (h3 : t.lok) (h4 : 256 < (t.data.size : Int)) : t.chk = 3 := by
  have h5 : 256 < t.data.size := by omega
  unfold TX.chk
  unfold TX.lok at h3
  rw [TX.whos h]
  cases h6 : t.lane <;> simp_all
theorem TX.chk_ok (h : ((0 ≤ t.frm ∧ t.frm < 64) ∧ 0 ≤ t.to_) ∧ t.to_ < 64) (h1 : numOk t.nonce = true) (h2 : numOk t.fee = true) (h3 : t.lok) (h4 : (t.data.size : Int) ≤ 256) : t.chk = 0 := by
  have h5 : ¬256 < t.data.size := by omega
  unfold TX.chk
  unfold TX.lok at h3
  rw [TX.whos h]
  cases h6 : t.lane <;> simp_all
theorem TX.chk_zero (h : t.chk = 0) : (((0 ≤ t.frm ∧ t.frm < 64) ∧ 0 ≤ t.to_) ∧ t.to_ < 64) ∧ (0 ≤ t.nonce ∧ t.nonce ≤ 1099511627776) ∧ (0 ≤ t.fee ∧ t.fee ≤ 1099511627776) ∧ t.lok ∧ t.data.size ≤ 256 := by
  by_cases hw : ((0 ≤ t.frm ∧ t.frm < 64) ∧ 0 ≤ t.to_) ∧ t.to_ < 64
  · cases h1 : numOk t.nonce with
    | false => rw [TX.chk_num hw (by simp [h1])] at h; cases h
    | true =>
      cases h2 : numOk t.fee with
      | false => rw [TX.chk_num hw (by simp [h2])] at h; cases h
      | true =>
        by_cases hl : t.lok
        · by_cases hd : 256 < t.data.size
          · rw [TX.chk_data hw h1 h2 hl (by omega)] at h; cases h
          · simp only [numOk, decide_eq_true_iff] at h1 h2
            exact ⟨hw, h1, h2, hl, by omega⟩
        · unfold TX.lok at hl
          cases h3 : t.lane with
          | true => rw [h3, if_pos rfl] at hl; rw [TX.chk_lane hw h1 h2 h3 (by simpa using hl)] at h; cases h
          | false => rw [h3, if_neg (by decide)] at hl; rw [TX.chk_none hw h1 h2 h3 hl] at h; cases h
  · rw [TX.chk_who hw] at h; cases h
theorem TX.lane_zero_ok (h : t.lok) (hl : t.lane = true) : (0 ≤ t.round ∧ t.round ≤ 1099511627776) ∧ (0 ≤ t.turn ∧ t.turn ≤ 1099511627776) := by
  unfold TX.lok at h
  rw [if_pos hl] at h
  simp only [Bool.and_eq_true, numOk, decide_eq_true_iff] at h
  exact h
end
def numS (n : Nat) : ByteArray := bstr (numEnc n)
def numSs (l : List Nat) : List ByteArray := l.map numS
def TX.nums (t : TX) : List Nat := [t.frm.toNat, t.nonce.toNat, t.fee.toNat, t.to_.toNat]
def TX.lnums (t : TX) : List Nat := [t.round.toNat, t.turn.toNat]
/-- what is signed, as strings -/
def TX.parts (t : TX) : List ByteArray := numSs t.nums ++ [t.data] ++ if t.lane = true then numSs t.lnums else []
def TX.body (t : TX) : List UInt8 := encList t.parts
def TX.bodyS (t : TX) : ByteArray := if t.chk = 0 then bstr t.body else ByteArray.empty
theorem numS_size {n : Nat} (h : n ≤ 1099511627776) : (numS n).size ≤ 7 := by
  rw [numS, bstr_size, numEnc_length]
  have := numB_length_le 6 n (by omega)
  omega
theorem numSs_tot : ∀ (l : List Nat), (∀ x ∈ l, x ≤ 1099511627776) → tot (numSs l) ≤ 7 * l.length
  | [], _ => by simp [tot, numSs]
  | x :: l, h => by
    have h1 := numS_size (h x (by simp))
    have h2 := numSs_tot l fun y hy => h y (by simp [hy])
    simp only [tot, numSs, List.map_cons, List.sum_cons, List.length_cons] at h2 ⊢
    omega
theorem tot_append (a b : List ByteArray) : tot (a ++ b) = tot a + tot b := by simp [tot]
section
variable {t : TX}
theorem TX.nums_le (h : t.chk = 0) : ∀ x ∈ t.nums, x ≤ 1099511627776 := by
  have h2 := TX.chk_zero h
  intro x hx
  simp only [TX.nums, List.mem_cons, List.not_mem_nil, or_false] at hx
  rcases hx with rfl | rfl | rfl | rfl <;> omega
theorem TX.lnums_le (h : t.chk = 0) (hl : t.lane = true) : ∀ x ∈ t.lnums, x ≤ 1099511627776 := by
  have h2 := TX.lane_zero_ok (TX.chk_zero h).2.2.2.1 hl
  intro x hx
  simp only [TX.lnums, List.mem_cons, List.not_mem_nil, or_false] at hx
  rcases hx with rfl | rfl <;> omega
theorem TX.parts_length : t.parts.length ≤ 7 := by
  unfold TX.parts
  cases t.lane <;> simp [numSs, TX.nums, TX.lnums]
theorem TX.parts_tot (h : t.chk = 0) : tot t.parts ≤ 400 := by
  have h1 := numSs_tot _ (TX.nums_le h)
  have h2 := (TX.chk_zero h).2.2.2.2
  have h3 : tot [t.data] = t.data.size := by simp [tot]
  have h4 : tot (if t.lane = true then numSs t.lnums else []) ≤ 14 := by
    cases hl : t.lane with
    | true => rw [if_pos rfl]; exact numSs_tot _ (TX.lnums_le h hl)
    | false => simp [tot]
  have h5 : t.nums.length = 4 := rfl
  unfold TX.parts
  rw [tot_append, tot_append]
  omega
def TX.tparts (t : TX) : List ByteArray := [bstr t.body, bstr t.tag] ++ if t.lane = true then [bstr t.by_] else []
def TX.text (t : TX) : List UInt8 := encList t.tparts
def TX.textS (t : TX) : ByteArray := if t.chk = 0 then bstr t.text else ByteArray.empty
theorem encList_length {ls : List ByteArray} (h : ls.length ≤ 1024) (ht : tot ls ≤ 65536) : (encList ls).length ≤ tot ls + 4 * ls.length + 4 := by
  have h1 := encd_tot ls fun s hs => Nat.le_trans (size_le_tot hs) ht
  have h2 := num_small (n := ls.length) (by omega)
  rw [← flat_encd, flat_length]
  simp only [tot, List.map_cons, List.sum_cons, bstr_size] at h1 ⊢
  omega
theorem TX.body_length (h : t.chk = 0) : t.body.length ≤ 432 := by
  have h1 := TX.parts_tot h
  have h2 := TX.parts_length (t := t)
  have := encList_length (ls := t.parts) (by omega) (by omega)
  unfold TX.body
  omega
theorem TX.tparts_length : t.tparts.length ≤ 3 := by
  unfold TX.tparts
  cases t.lane <;> simp
theorem TX.tparts_tot (h : t.chk = 0) (ht : t.wf) : tot t.tparts ≤ 500 := by
  have h1 := TX.body_length h
  have h2 := ht.by_
  have h3 := ht.tag
  unfold TX.tparts
  cases t.lane <;> simp [tot, bstr_size] <;> omega
end
open Go.RowKit
set_option maxHeartbeats 400000 in
theorem num_any (n : Int) (w : World) : Calls Tryd.prog 67 #[.int .i64 n] w fun e w' => e = .returned (.bool (numOk n)) ∧ w' = w := by
  by_cases h0 : 0 ≤ n
  · by_cases h1 : n ≤ 1099511627776
    · have hf : numOk n = true := by simp [numOk, h0, h1]
      rw [hf]
      go_enter Tryd.func67, Tryd.ntmps67
      go_wp2
      go_ret
      exact ⟨by simp, rfl⟩
    · have hf : numOk n = false := by simp [numOk, h1]
      rw [hf]
      go_enter Tryd.func67, Tryd.ntmps67
      go_wp2
      go_ret
      exact ⟨by simp, rfl⟩
  · have hf : numOk n = false := by simp [numOk, h0]
    rw [hf]
    go_enter Tryd.func67, Tryd.ntmps67
    go_wp2
    go_ret
    exact ⟨rfl, rfl⟩
/-- a boxed transaction -/
def TxAt (w wr : World) (t : TX) : Prop := Below w.heap.size w wr ∧ wr.heap[w.heap.size]? = some (.cells t.cells.toArray 25 (0, 0))
theorem TxAt.start (w : World) (t : TX) : TxAt w (w.alloc (.cells t.cells.toArray 25)) t := ⟨bw_alloc (Below.refl _ _) _, heap_alloc_new _ _⟩
theorem TxAt.cell {w wr : World} {t : TX} (h : TxAt w wr t) (k : Nat) (v : Value) (hk : t.cells[k]? = some v) : wr.cell? ⟨w.heap.size, k, none⟩ = some v := by
  rw [cell_of_row wr w.heap.size k _ _ _ h.2, List.getElem?_toArray]
  exact hk
theorem TxAt.cells {w wr : World} {t : TX} (h : TxAt w wr t) : wr.cell? ⟨w.heap.size, 0, none⟩ = some (.int .i64 t.frm) ∧ wr.cell? ⟨w.heap.size, 1, none⟩ = some (.int .i64 t.nonce) ∧ wr.cell? ⟨w.heap.size, 2, none⟩ = some (.int .i64 t.fee) ∧
    wr.cell? ⟨w.heap.size, 3, none⟩ = some (.int .i64 t.to_) ∧ wr.cell? ⟨w.heap.size, 4, none⟩ = some (.string t.data) ∧ wr.cell? ⟨w.heap.size, 5, none⟩ = some (.bool t.lane) ∧ wr.cell? ⟨w.heap.size, 6, none⟩ = some (.int .i64 t.round) ∧ wr.cell? ⟨w.heap.size, 7, none⟩ = some (.int .i64 t.turn) :=
  ⟨h.cell 0 _ rfl, h.cell 1 _ rfl, h.cell 2 _ rfl, h.cell 3 _ rfl, h.cell 4 _ rfl, h.cell 5 _ rfl, h.cell 6 _ rfl, h.cell 7 _ rfl⟩
theorem TxAt.upd {w w2 : World} {t : TX} {X Y : Obj} (h : TxAt w (w.alloc (.cells t.cells.toArray 25)) t) (hU : Upd ((w.alloc (.cells t.cells.toArray 25)).alloc X) w2 (w.heap.size + 1) Y) : TxAt w w2 t := by
  refine ⟨hU.below (bw_alloc h.1 _) (by omega), ?_⟩
  rw [hU.other _ (by omega), Below.heap_alloc _ _ _ (by simp)]
  exact h.2
theorem lane_len {h : List UInt8} (hl : h.length = 32) (r u : Int) : (laneC r u h).length = zl34.length := by simp only [laneC, List.length_cons, u8s_length, hl]; rfl
theorem lane_zero (w : World) : (zeroValue 95).run Tryd.prog w = .ok (.agg zl34.toArray) w := by kernel_rfl
theorem lane_build (r u : Int) {h : List UInt8} (hl : h.length = 32) (w : World) :
    (Instr.build 95 #[(0, .int .i64 r), (1, .int .i64 u), (2, .agg (u8s h).toArray)]).run Tryd.prog w = .ok (.agg (laneC r u h).toArray) w := by
  refine run_build_struct (places := #[(0, 1), (1, 1), (2, 32)]) w (lane_zero w) Tryd.underlying95 (by kernel_rfl) ?_
  rw [fill_cons (off := 0) (size := 1) rfl rfl (by decide), fill_cons (off := 1) (size := 1) rfl rfl (by simp [splice, Value.cells]), fill_cons (off := 2) (size := 32) rfl (by simp [Value.cells, u8s_length, hl]) (by simp [splice, Value.cells])]
  rw [Instr.fill]
  congr 1
  simp only [Value.cells, splice, u8s_length, hl, laneC, zl34, zl32]
  simp
theorem wpList_build_g {P : Program} {ops : Array Oper} {rest : List Oper} {o : Oper} {a : Act} {w : World} {Q : Exit → Act → World → Prop} (hw : Region.wanted o (yielded ops a.tmps) = true) (t : TypeId) (parts : List (Nat × Operand)) (ho : o.op = .build t parts.toArray) (vs : List (Nat × Value)) (v : Value)
    (hv : parts.map (fun x => (x.1, a.eval x.2)) = vs) (hrun : (Instr.build t vs.toArray).run P w = .ok v w)
    (h : wpList P ops Q rest (a.put o.dst v) w) : wpList P ops Q (o :: rest) a w := by
  refine wpList_step fun K hK => ?_
  rw [if_pos hw]
  unfold Oper.wp execOp
  subst hv
  simp only [ho, List.map_toArray, Sem.run_bind, hrun, Result.andThen_ok, Sem.run_pure]
  exact hK _ _ h
theorem wpList_bin_g {P : Program} {ops : Array Oper} {rest : List Oper} {o : Oper} {a : Act} {w : World} {Q : Exit → Act → World → Prop} (hw : Region.wanted o (yielded ops a.tmps) = true) (op : BinOp) (t t2 : TypeId) (x y : Operand) (ho : o.op = .binOp op t x y t2) (u v r : Value)
    (hx : a.eval x = u) (hy : a.eval y = v) (hg : (eqGuard op t x y u v).run P w = .ok () w) (hrun : (binOp op t u v).run P w = .ok r w)
    (h : wpList P ops Q rest (a.put o.dst r) w) : wpList P ops Q (o :: rest) a w := by
  refine wpList_step fun K hK => ?_
  rw [if_pos hw]
  unfold Oper.wp execOp
  subst hx hy
  simp only [ho, Sem.run_bind, hg, hrun, Result.andThen_ok, Sem.run_pure]
  exact hK _ _ h
theorem lane_build0 (w : World) : (Instr.build 95 #[]).run Tryd.prog w = .ok (.agg zl34.toArray) w := by
  exact run_build_struct (parts := #[]) (places := #[(0, 1), (1, 1), (2, 32)]) w (lane_zero w) Tryd.underlying95 (by kernel_rfl) rfl
theorem eq_hash2 {a b : List UInt8} (ha : a.length = 32) (hb : b.length = 32) (w : World) : (Op.equalIn 9999 23 (.agg (u8s a).toArray) (.agg (u8s b).toArray)).run Tryd.prog w = .ok (decide (a = b)) w :=
  run_equal_u8s Tryd.underlying23 byte_info rfl Tryd.underlying5 (by kernel_rfl) 9997 a b ha hb w
theorem part_int {P : Program} {t : TypeId} {k : IntKind} (hu : P.underlying t = some (.int k)) (cs : List Value) (i : Nat) (v : Value) (hv : cs[i]? = some v) (w : World) : (part t cs.toArray i).run P w = .ok v w := by
  simp [part, isAgg, run_underlying hu, hv]
theorem part_hash (cs : List Value) (i : Nat) (h : List UInt8) (hc : (cs.drop i).take 32 = u8s h) (w : World) : (part 23 cs.toArray i).run Tryd.prog w = .ok (.agg (u8s h).toArray) w := by
  have hi : (Tryd.prog.info? 23).map (·.size) = some 32 := by kernel_rfl
  obtain ⟨I, hI, hs⟩ : ∃ I, Tryd.prog.info? 23 = some I ∧ I.size = 32 := by
    cases hx : Tryd.prog.info? 23 with
    | none => rw [hx] at hi; simp at hi
    | some I => exact ⟨I, rfl, by rw [hx] at hi; simpa using hi⟩
  simp only [part, isAgg, Sem.run_bind, run_underlying Tryd.underlying23, Result.andThen_ok, sizeOf, typeInfo, run_program, hI, Sem.run_pure, hs, if_true]
  rw [List.extract_toArray, ← hc]
  simp
theorem lane_eq (r u : Int) {h : List UInt8} (hl : h.length = 32) (w : World) : (Op.equalIn 10000 95 (.agg (laneC r u h).toArray) (.agg zl34.toArray)).run Tryd.prog w = .ok (decide (r = 0 ∧ u = 0 ∧ h = z32)) w := by
  rw [run_equalIn_struct w 9999 _ _ _ (by simp only [Program.fieldsOf, Tryd.underlying95]) (by kernel_rfl)]
  simp only [Program.fieldsOf, Tryd.underlying95, Op.eqFields]
  rw [if_pos (by decide), if_pos (by decide), if_pos (by decide)]
  have a0 := part_int Tryd.underlying3 (laneC r u h) 0 (.int .i64 r) rfl
  have a1 := part_int Tryd.underlying3 (laneC r u h) 1 (.int .i64 u) rfl
  have b0 := part_int Tryd.underlying3 zl34 0 (.int .i64 0) rfl
  have b1 := part_int Tryd.underlying3 zl34 1 (.int .i64 0) rfl
  have a2 := part_hash (laneC r u h) 2 h (by simp only [laneC, List.drop_succ_cons, List.drop_zero]; rw [List.take_of_length_le (by rw [u8s_length, hl]; exact Nat.le_refl _)])
  have b2 := part_hash zl34 2 z32 rfl
  have e3 := eq_hash2 hl z32_length
  have i1 : ∀ (a b : Int) (w : World), (Op.equalIn 9999 3 (.int .i64 a) (.int .i64 b)).run Tryd.prog w = .ok (a == b) w := fun a b w => run_equalIn_int w 9998 _ _ _ a b Tryd.underlying3
  simp only [Sem.run_bind, Sem.run_ite, Sem.run_pure, a0, a1, a2, b0, b1, b2, e3, i1, Result.andThen_ok]
  by_cases h0 : r = 0
  · by_cases h1 : u = 0
    · by_cases h2 : h = z32
      · simp [h0, h1, h2]
      · simp [h0, h1, h2]
    · simp [h0, h1]
  · simp [h0]
theorem lane_neq (r u : Int) {h : List UInt8} (hl : h.length = 32) (w : World) : (binOp .neq 95 (.agg (laneC r u h).toArray) (.agg zl34.toArray)).run Tryd.prog w = .ok (.bool !(decide (r = 0 ∧ u = 0 ∧ h = z32))) w := by
  rw [run_neq_struct, lane_eq r u hl]
  rfl
theorem lane_guard (x y : Operand) (xs ys : Array Value) (w : World) : (eqGuard .neq 95 x y (.agg xs) (.agg ys)).run Tryd.prog w = .ok () w := run_eqGuard_agg w .neq _ x y xs ys (by kernel_rfl)
theorem lane_info {h : List UInt8} (hl : h.length = 32) (r u : Int) : (Tryd.prog.info? 95).map (·.size) = some (laneC r u h).length := by simp only [laneC, List.length_cons, u8s_length, hl]; kernel_rfl
theorem lane_one (r u : Int) (h : List UInt8) : ∀ v ∈ laneC r u h, v.oneCell' = true := by
  intro v hv
  simp only [laneC, List.mem_cons] at hv
  rcases hv with rfl | rfl | hv
  · rfl
  · rfl
  · exact u8s_one _ v hv
theorem chk_ret {a b : Int} (h : b = a) : Ending.returned (Value.int .i64 a) = .returned (.int .i64 b) := by rw [h]
set_option maxHeartbeats 1000000 in
set_option maxRecDepth 4000 in
theorem check_any (t : TX) (w : World) (ht : t.wf) :
    Calls Tryd.prog 21 #[.agg t.cells.toArray] w fun e w' => e = .returned (.int .i64 t.chk) ∧ Below w.heap.size w w' := by
  have HT := Lib.hid ht
  have hA0 := TxAt.start w t
  obtain ⟨c0, c1, c2, c3, c4, c5, c6, c7⟩ := hA0.cells
  clear c0 c1 c2 c3 c4 c5
  have hg0 := hA0.2
  have HA0 := Lib.hid hA0
  have hbl := fun W => lane_build t.round t.turn HT.out.by_ W
  have hz1 : ((w.alloc (.cells t.cells.toArray 25)).alloc (.cells zl34.toArray 95)).heap[w.heap.size + 1]? = some (.cells zl34.toArray 95 (0, 0)) := heap_alloc2_new w _ _
  clear ht hA0
  cases hln : t.lane
  · have HLN := Lib.hid hln
    clear hln
    go_enter Tryd.func21, Tryd.ntmps21
    go_wp2_with (first
      | (with_reducible refine wpList_load_rows rfl 23 (.tmp 8) rfl w.heap.size 8 (u8s t.by_) t.cells 25 (0, 0) _ rfl hg0 TX.at_by Tryd.underlying23 rfl (hash_info HT.out.by_) ?_)
      | (with_reducible refine wpList_build rfl 95 [(0, .tmp 5), (1, .tmp 7), (2, .tmp 9)] rfl [(0, .int .i64 t.round), (1, .int .i64 t.turn), (2, .agg (u8s t.by_).toArray)] (.agg (laneC t.round t.turn t.by_).toArray) rfl (hbl _) ?_)
      | ((with_reducible refine wpList_store_whole rfl 95 (.tmp 3) (.tmp 10) rfl (w.heap.size + 1) (laneC t.round t.turn t.by_) zl34 95 rfl rfl hz1 (lane_len HT.out.by_ _ _) (lane_info HT.out.by_ _ _) (lane_one _ _ _) ?_); intro w2 hU; have hA2 := HA0.out.upd hU.out; obtain ⟨d0, d1, d2, d3, d4, d5, d6, d7⟩ := hA2.cells; rw [HLN.out] at d5; have HA2 := Lib.hid hA2; clear hA2 c6 c7 hbl hz1 hg0)
      | (with_reducible refine wpList_load_rows_g (by kernel_rfl) 95 (.tmp 3) rfl (w.heap.size + 1) 0 (laneC t.round t.turn t.by_) (laneC t.round t.turn t.by_) 95 (0, 0) _ rfl hU.out.at_ id_at Tryd.underlying95 rfl (lane_info HT.out.by_ _ _) ?_)
      | (with_reducible refine wpList_build_g (by kernel_rfl) 95 [] rfl [] (.agg zl34.toArray) rfl (lane_build0 _) ?_)
      | (with_reducible refine wpList_bin_g (by kernel_rfl) .neq 95 95 (.tmp 59) (.tmp 60) rfl (.agg (laneC t.round t.turn t.by_).toArray) (.agg zl34.toArray) (.bool !(decide (t.round = 0 ∧ t.turn = 0 ∧ t.by_ = z32))) rfl rfl (lane_guard _ _ _ _ _) (lane_neq _ _ HT.out.by_ _) ?_)
      | (go_at_call 67; refine (num_any _ _).mono ?_; rintro e w' ⟨rfl, rfl⟩))
    go_ways
    all_goals (go_ret; refine ⟨?_, HA2.out.1⟩; refine chk_ret ?_; have hln := HLN.out; clear HT HA0 HA2 HLN d0 d1 d2 d3 d4 d5 d6 d7 hU)
    all_goals first
      | exact TX.chk_who (by omega)
      | (refine TX.chk_num (by omega) ?_; simp_all; done)
      | (refine TX.chk_lane (by omega) ?_ ?_ ?_ ?_ <;> simp_all; done)
      | (refine TX.chk_none (by omega) ?_ ?_ ?_ ?_ <;> simp_all; done)
      | (refine TX.chk_none2 (by omega) ?_ ?_ ‹_› ‹_› <;> simp_all; done)
      | (refine TX.chk_data (by omega) ?_ ?_ ?_ ?_ <;> simp_all [TX.lok]; done)
      | (refine TX.chk_ok (by omega) ?_ ?_ ?_ ?_ <;> simp_all [TX.lok]; done)
  · have HLN := Lib.hid hln
    clear hln
    go_enter Tryd.func21, Tryd.ntmps21
    go_wp2_with (first
      | (with_reducible refine wpList_load_rows rfl 23 (.tmp 8) rfl w.heap.size 8 (u8s t.by_) t.cells 25 (0, 0) _ rfl hg0 TX.at_by Tryd.underlying23 rfl (hash_info HT.out.by_) ?_)
      | (with_reducible refine wpList_build rfl 95 [(0, .tmp 5), (1, .tmp 7), (2, .tmp 9)] rfl [(0, .int .i64 t.round), (1, .int .i64 t.turn), (2, .agg (u8s t.by_).toArray)] (.agg (laneC t.round t.turn t.by_).toArray) rfl (hbl _) ?_)
      | ((with_reducible refine wpList_store_whole rfl 95 (.tmp 3) (.tmp 10) rfl (w.heap.size + 1) (laneC t.round t.turn t.by_) zl34 95 rfl rfl hz1 (lane_len HT.out.by_ _ _) (lane_info HT.out.by_ _ _) (lane_one _ _ _) ?_); intro w2 hU; have hA2 := HA0.out.upd hU.out; obtain ⟨d0, d1, d2, d3, d4, d5, d6, d7⟩ := hA2.cells; rw [HLN.out] at d5; have HA2 := Lib.hid hA2; clear hA2 c6 c7 hbl hz1 hg0)
      | (go_at_call 67; refine (num_any _ _).mono ?_; rintro e w' ⟨rfl, rfl⟩))
    go_ways
    all_goals (go_ret; refine ⟨?_, HA2.out.1⟩; refine chk_ret ?_; have hln := HLN.out; clear HT HA0 HA2 HLN d0 d1 d2 d3 d4 d5 d6 d7 hU)
    all_goals first
      | exact TX.chk_who (by omega)
      | (refine TX.chk_num (by omega) ?_; simp_all; done)
      | (refine TX.chk_lane (by omega) ?_ ?_ ?_ ?_ <;> simp_all; done)
      | (refine TX.chk_none (by omega) ?_ ?_ ?_ ?_ <;> simp_all; done)
      | (refine TX.chk_none2 (by omega) ?_ ?_ ‹_› ‹_› <;> simp_all; done)
      | (refine TX.chk_data (by omega) ?_ ?_ ?_ ?_ <;> simp_all [TX.lok]; done)
      | (refine TX.chk_ok (by omega) ?_ ?_ ?_ ?_ <;> simp_all [TX.lok]; done)
open Go.RowKit
/-- a captured list of strings: its cell, and the strings that it owns -/
structure LAt (w : World) (bl : Nat) (v : Value) (ls : List ByteArray) : Prop where
  cell : w.heap[bl]? = some (.cells #[v] 80 (0, 0))
  own : w.ownsRow (bl + 1) 9 1 v ls.length (strs ls)
theorem own_ne {w : World} {base size n : Nat} {e : TypeId} {v : Value} {xs : List Value} (h : w.ownsRow base e size v n xs) {b : Nat} {cs : Array Value} {t : TypeId} {fr : Nat × Nat} (hb : w.heap[b]? = some (.cells cs t fr)) (ht : t ≠ e) : some b ≠ v.ownBlock := by
  rcases h.2 with ⟨rfl, _⟩ | ⟨g, cap, cur, rfl, _, hg, _⟩
  · simp [Value.ownBlock]
  · intro hx
    obtain rfl : b = g := by simpa [Value.ownBlock] using hx
    rw [hg] at hb
    simp at hb
    exact ht hb.2.1.symm
theorem LAt.below {w w' : World} {bl : Nat} {v : Value} {ls : List ByteArray} (h : LAt w bl v ls) (hb : Below w.heap.size w w') : LAt w' bl v ls :=
  ⟨(hb.block _ (block_lt h.cell)).trans h.cell, own_below h.own hb (Nat.le_refl _)⟩
theorem LAt.alloc {w : World} {bl : Nat} {v : Value} {ls : List ByteArray} (h : LAt w bl v ls) (o : Obj) : LAt (w.alloc o) bl v ls := h.below (bw_alloc (Below.refl _ _) _)
theorem own_shape {w : World} {base n size : Nat} {e : TypeId} {v : Value} {xs : List Value} (h : w.ownsRow base e size v n xs) : ∃ q m c, v = .slice q m c := by
  rcases h.2 with ⟨rfl, _⟩ | ⟨g, cap, cur, rfl, _⟩
  · exact ⟨_, _, _, rfl⟩
  · exact ⟨_, _, _, rfl⟩
/-- append(l, x) of one string that has just been boxed, l owned -/
theorem wpList_app_one {P : Program} {W : World} {ops : Array Oper} {rest : List Oper} {o : Oper} {a : Act} {Q : Exit → Act → World → Prop} (hgd : o.guard = none) (s x : Operand) (t e : TypeId)
    (ho : o.op = .call { callee := .builtin .append, args := #[s, x], argTypes := #[t, t] })
    (ht : P.underlying t = some (.slice e)) (i : TypeInfo) (hi : P.info? e = some i) (z : Value) (hz : i.zero = some z) (hs1 : i.size = 1) (hzs : z.cells.size = 1) (bytes : Nat) (hby : i.bytes = bytes)
    (base : Nat) (v : Value) (n : Nat) (xs : List Value) (hs : a.eval s = v) (hown : W.ownsRow base e 1 v n xs)
    (u : Value) (h1 : u.oneCell' = true) (hx : a.eval x = .slice (some ⟨W.heap.size, 0, none⟩) 1 1) (tt : TypeId) (hn : (n + 1) * bytes ≤ 140737488355328) (hn2 : n + 1 ≤ 1099511627776) (hbase : base ≤ W.heap.size)
    (h : ∀ v' w', Hid (w'.ownsRow base e 1 v' (n + 1) (xs ++ [u])) → Hid ((W.alloc (.cells #[u] tt)).grownBy w' v.ownBlock) → wpList P ops Q rest (a.put o.dst v') w') : wpList P ops Q (o :: rest) a (W.alloc (.cells #[u] tt)) := by
  refine wpList_append_own (W.alloc (.cells #[u] tt)) hgd s x t ho base e i z 1 bytes ht hi hz hs1 hby hzs (by decide) v n xs hs (hown.alloc _) ⟨W.heap.size, 0, none⟩ 1 1 [u] hx rfl ?_ ?_ (by unfold maxLen; omega) hn (by simp; omega) ?_
  · intro j y hj
    cases j with
    | zero =>
      simp at hj
      subst hj
      show (W.alloc (.cells #[u] tt)).cell? ⟨W.heap.size, 0, none⟩ = _
      rw [cell_of_row _ W.heap.size 0 _ _ _ (heap_alloc_new W _)]
      rfl
    | succ j => simp at hj
  · intro y hy
    simp at hy
    subst hy
    exact h1
  · intro v' w' hown' hg _
    exact h v' w' hown' hg
/-- the list's cell behind the append and the store -/
theorem LAt.put {W w' : World} {bl : Nat} {v v' : Value} {ls : List ByteArray} {s : ByteArray} {t : TypeId} (h : LAt W bl v ls) (ho : w'.ownsRow (bl + 1) 9 1 v' (ls.length + 1) (strs ls ++ [.string s])) (hg : (W.alloc (.cells #[.string s] t)).grownBy w' v.ownBlock) :
    w'.heap[bl]? = some (.cells #[v] 80 (0, 0)) ∧ LAt (w'.setCell ⟨bl, 0, none⟩ v') bl v' (ls ++ [s]) := by
  have h0 := (h.alloc (.cells #[.string s] t))
  have h1 : w'.heap[bl]? = some (.cells #[v] 80 (0, 0)) := (hg.block bl (block_lt h0.cell) (own_ne h.own h.cell (by decide))).trans h0.cell
  refine ⟨h1, one_setCell h1, ?_⟩
  rw [show strs (ls ++ [s]) = strs ls ++ [.string s] by rw [strs_app, strs_one], List.length_append, List.length_singleton]
  exact ownsRow_setCell_other ho (Ne.symm (own_ne ho h1 (by decide))) _
theorem LAt.put_other {W w' : World} {bl b : Nat} {v v' : Value} {ls : List ByteArray} {s : ByteArray} {t t2 : TypeId} {cs : Array Value} {fr : Nat × Nat} (h : LAt W bl v ls) (hg : (W.alloc (.cells #[.string s] t)).grownBy w' v.ownBlock)
    (hb : W.heap[b]? = some (.cells cs t2 fr)) (ht : t2 ≠ 9) (hne : b ≠ bl) : (w'.setCell ⟨bl, 0, none⟩ v').heap[b]? = some (.cells cs t2 fr) := by
  have h1 : w'.heap[b]? = some (.cells cs t2 fr) := (hg.block b (by have := block_lt hb; simp; omega) (own_ne h.own hb ht)).trans ((Below.heap_alloc _ _ _ (block_lt hb)).trans hb)
  rw [← h1]
  exact heap_setCell_other _ _ _ _ hne
theorem LAt.put_below {W w' : World} {bl : Nat} {v v' : Value} {ls : List ByteArray} {s : ByteArray} {t : TypeId} (h : LAt W bl v ls) (hg : (W.alloc (.cells #[.string s] t)).grownBy w' v.ownBlock) :
    Below bl W (w'.setCell ⟨bl, 0, none⟩ v') := by
  have hlt := block_lt h.cell
  refine Below.setCell ((((Below.refl bl W).alloc (by omega) _)).grown hg (by simp; omega) (fun k hk => ?_)) (p := ⟨bl, 0, none⟩) (Nat.le_refl _) _
  have := own_blk h.own k hk.symm.symm
  omega
def ints (l : List Nat) : List Value := l.map fun (y : Nat) => Value.int .i64 (y : Int)
theorem ints_at {w : World} {bn : Nat} {l : List Nat} {t : TypeId} {fr : Nat × Nat} (h : w.heap[bn]? = some (.cells (ints l).toArray t fr)) {k : Nat} (hk : k < l.length) : w.cell? ⟨bn, k, none⟩ = some (.int .i64 (l[k]'hk)) := by
  rw [cell_of_row w bn k _ _ _ h, List.getElem?_toArray]
  simp [ints, List.getElem?_eq_getElem hk]
theorem numSs_snoc (l : List Nat) (k : Nat) (h : k < l.length) : numSs (l.take (k + 1)) = numSs (l.take k) ++ [numS (l[k]'h)] := by
  unfold numSs
  rw [List.take_succ_eq_append_getElem h, List.map_append]
  rfl
theorem own_len {_w : World} {bl : Nat} {_v : Value} {ls : List ByteArray} {x : ByteArray} {w' : World} {v' : Value} (h : w'.ownsRow (bl + 1) 9 1 v' (ls.length + 1) (strs ls ++ [.string x])) : w'.ownsRow (bl + 1) 9 1 v' (ls.length + 1) (strs ls ++ [.string x]) := h
set_option maxHeartbeats 1000000 in
set_option maxRecDepth 4000 in
theorem put_any (l : List Nat) (ls : List ByteArray) (w : World) (bl bn : Nat) (v : Value) (hl : ∀ k (h : k < l.length), l[k]'h ≤ 1099511627776) (hk : l.length ≤ 16) (hls : ls.length ≤ 1000)
    (hL : LAt w bl v ls) (hn : w.heap[bn]? = some (.cells (ints l).toArray 3 (0, 0))) :
    Calls Tryd.prog 60 #[.slice (some ⟨bn, 0, none⟩) l.length l.length, .pointer (some ⟨bl, 0, none⟩)] w fun e w' => e = .returned (.tuple #[]) ∧ (∃ v', LAt w' bl v' (ls ++ numSs l)) ∧ Below bl w w' := by
  have HL := Lib.hid hl
  have HA := Lib.hid hL
  have HN := Lib.hid hn
  have hne : bn ≠ bl := by
    rintro rfl
    have := hL.cell
    rw [hn] at this
    simp at this
  clear hl hL hn
  go_enter Tryd.func60, Tryd.ntmps60
  go_wp2_with fail
  go_loopw [9] (fun i wr => ∃ (k : Nat) (u : Value), k ≤ l.length ∧ i = .int .i64 k ∧ Hid (LAt wr bl u (ls ++ numSs (l.take k))) ∧ Hid (wr.heap[bn]? = some (.cells (ints l).toArray 3 (0, 0))) ∧ Hid (Below bl w wr)) (fun i _ => l.length - (intOf i).toNat)
  case atStart => exact ⟨0, v, by omega, rfl, show _ from by have := HA.out; rw [List.take_zero, show numSs [] = [] from rfl, List.append_nil]; exact this, HN.out, Below.refl _ _⟩
  case round =>
    obtain ⟨k, u, hk2, rfl, hA, hN, hB⟩ := hrel
    by_cases hlt : k < l.length
    · have hc := ints_at hN.out hlt
      have hx := HL.out k hlt
      have hlen : (ls ++ numSs (l.take k)).length = ls.length + k := by rw [List.length_append, numSs, List.length_map, List.length_take, Nat.min_eq_left hk2]
      have HLEN := Lib.hid hlen
      have hcb := cell_of_one hA.out.cell
      clear hlen
      go_wp2_with fail
      refine (number_any _ _ (by omega) (by omega)).mono ?_
      rintro e w2 ⟨rfl, hb2⟩
      have HA2 := Lib.hid (hA.out.below hb2)
      have HN2 := Lib.hid ((hb2.block _ (block_lt hN.out)).trans hN.out)
      have HB2 := Lib.hid (hB.out.trans (hb2.mono (by have := block_lt hA.out.cell; omega)))
      have hcb2 := cell_of_one HA2.out.cell
      clear hb2 hcb
      have hsz : (ls ++ numSs (l.take k)).length + 1 ≤ 2000 := by rw [HLEN.out]; omega
      have hbz := Nat.succ_le_of_lt (block_lt HA2.out.cell)
      go_wp2_with ((at_builtin; refine wpList_app_one rfl (.tmp 18) (.tmp 20) 80 9 rfl Tryd.underlying80 _ str_info (.string ByteArray.empty) rfl rfl rfl 16 rfl (bl + 1) u _ _ rfl HA2.out.own (.string (numS l[k])) rfl rfl 9 (by omega) (by omega) hbz ?_); intro v3 w3 hO3 hG3; obtain ⟨q3, n3, c3, rfl⟩ := own_shape hO3.out; have hP := HA2.out.put hO3.out hG3.out; have hc3 := cell_of_one hP.1; have hf3 := free_of_one hP.1; have HP := Lib.hid hP.2; have HQ := Lib.hid (HA2.out.put_other (v' := .slice q3 n3 c3) hG3.out HN2.out (by decide) hne); have HR := Lib.hid (HB2.out.trans (HA2.out.put_below (v' := .slice q3 n3 c3) hG3.out)); clear hP)
      go_roundw
      case rel => exact ⟨k + 1, .slice q3 n3 c3, by omega, by go_num, show _ from by have := HP.out; rw [List.append_assoc, ← numSs_snoc l k hlt] at this; exact this, HQ, HR⟩
      case measure => simp [intOf]; omega
    · obtain rfl : k = l.length := by omega
      go_wp2_with fail
      go_end0
      refine ⟨rfl, ⟨u, ?_⟩, hB.out⟩
      have := hA.out
      rw [List.take_length] at this
      exact this
theorem tx_info {t : TX} (ht : t.wf) : (Tryd.prog.info? 25).map (·.size) = some t.cells.length := by rw [t.cells_length ht.by_ ht.tag]; kernel_rfl
theorem TX.ints_nums {t : TX} (h : t.chk = 0) : ints t.nums = [.int .i64 t.frm, .int .i64 t.nonce, .int .i64 t.fee, .int .i64 t.to_] := by
  have h2 := TX.chk_zero h
  simp only [ints, TX.nums, List.map_cons, List.map_nil, Int.toNat_of_nonneg (show 0 ≤ t.frm by omega), Int.toNat_of_nonneg (show 0 ≤ t.nonce by omega), Int.toNat_of_nonneg (show 0 ≤ t.fee by omega), Int.toNat_of_nonneg (show 0 ≤ t.to_ by omega)]
theorem TX.ints_lnums {t : TX} (h : t.chk = 0) (hl : t.lane = true) : ints t.lnums = [.int .i64 t.round, .int .i64 t.turn] := by
  have h2 := TX.lane_zero_ok (TX.chk_zero h).2.2.2.1 hl
  simp only [ints, TX.lnums, List.map_cons, List.map_nil, Int.toNat_of_nonneg (show 0 ≤ t.round by omega), Int.toNat_of_nonneg (show 0 ≤ t.turn by omega)]
theorem mem_get {p : Nat → Prop} {l : List Nat} (h : ∀ x ∈ l, p x) : ∀ k (hk : k < l.length), p (l[k]'hk) := fun _k hk => h _ (List.getElem_mem hk)
theorem TxAt.below {w wr w' : World} {t : TX} (h : TxAt w wr t) {B : Nat} (hb : Below B wr w') (hB : w.heap.size < B) (h2 : Below w.heap.size w w') : TxAt w w' t := ⟨h2, (hb.block _ hB).trans h.2⟩
set_option maxHeartbeats 1000000 in
set_option maxRecDepth 4000 in
theorem body_any (t : TX) (w : World) (ht : t.wf) :
    Calls Tryd.prog 16 #[.agg t.cells.toArray] w fun e w' => e = .returned (.tuple #[.string t.bodyS, .int .i64 t.chk]) ∧ Below w.heap.size w w' := by
  have HT := Lib.hid ht
  have hA0 := TxAt.start w t
  have hg0 := hA0.2
  have HA0 := Lib.hid hA0
  clear hA0 ht
  obtain ⟨k, hk⟩ : ∃ k, k = t.chk := ⟨_, rfl⟩
  obtain ⟨b, hb⟩ : ∃ b, b = t.bodyS := ⟨_, rfl⟩
  have HK := Lib.hid hk
  have HBS := Lib.hid hb
  rw [← hk, ← hb]
  clear hb
  by_cases hk0 : k = 0
  · subst hk0
    have hck : t.chk = 0 := hk.symm
    have HIN := Lib.hid (TX.ints_nums hck)
    have HNL := Lib.hid (mem_get (TX.nums_le hck))
    have HCK := Lib.hid hck
    have hbe : Hid (b = bstr (encList t.parts)) := show _ = _ by rw [HBS.out, TX.bodyS, if_pos hck]; rfl
    clear hk hck
    go_enter Tryd.func16, Tryd.ntmps16
    go_wp2_with (with_reducible refine wpList_load_rows rfl 25 (.tmp 1) rfl w.heap.size 0 t.cells t.cells 25 (0, 0) _ rfl hg0 id_at Tryd.underlying25 rfl (tx_info HT.out) ?_)
    refine (check_any t _ HT.out).mono ?_
    rintro e w1 ⟨rfl, hb1⟩
    rw [← HK.out]
    have hlt : w.heap.size < (w.alloc (.cells t.cells.toArray 25)).heap.size := by simp
    have hA1 := HA0.out.below hb1 hlt (bw_call (bw_alloc (Below.refl _ _) _) hb1)
    have hA2 : TxAt w (w1.alloc (.cells #[.slice none 0 0] 80)) t := hA1.below (bw_alloc (Below.refl w1.heap.size w1) _) (Nat.lt_of_lt_of_le hlt hb1.size) (bw_alloc hA1.1 _)
    obtain ⟨c0, c1, c2, c3, c4, c5, c6, c7⟩ := hA2.cells
    have HA2 := Lib.hid hA2
    have hW1 : w.heap.size < w1.heap.size := Nat.lt_of_lt_of_le hlt hb1.size
    clear hA1 hA2 hb1
    go_wp2_with fail
    have hL0 : LAt (w1.alloc (.cells #[.slice none 0 0] 80)) w1.heap.size (.slice none 0 0) [] := ⟨heap_alloc_new _ _, own_nil _ _ _ _⟩
    have hN0 : ((w1.alloc (.cells #[.slice none 0 0] 80)).alloc (.cells (ints t.nums).toArray 3)).heap[w1.heap.size + 1]? = some (.cells (ints t.nums).toArray 3 (0, 0)) := heap_alloc2_new w1 _ _
    rw [HIN.out] at hN0
    have hA3 := HA2.out.below (bw_alloc (Below.refl _ _) (.cells #[.int .i64 t.frm, .int .i64 t.nonce, .int .i64 t.fee, .int .i64 t.to_] 3)) (by simp; omega) (bw_alloc HA2.out.1 _)
    refine (put_any t.nums [] _ w1.heap.size (w1.heap.size + 1) (.slice none 0 0) HNL.out (show 4 ≤ 16 by decide) (by decide) (hL0.alloc _) (by rw [HIN.out]; exact hN0)).mono ?_
    rintro e w2 ⟨rfl, ⟨v2, hL2⟩, hb2⟩
    have hA4 := hA3.below hb2 hW1 (hA3.1.trans (hb2.mono (by omega)))
    rw [List.nil_append] at hL2
    obtain ⟨q2, n2, k2, rfl⟩ := own_shape hL2.own
    have hc2 := cell_of_one hL2.cell
    have HL2 := Lib.hid hL2
    have HA4 := Lib.hid hA4
    clear c0 c1 c2 c3 c4 c5 c6 c7
    obtain ⟨c0, c1, c2, c3, c4, c5, c6, c7⟩ := hA4.cells
    have hbz := Nat.succ_le_of_lt (block_lt hL2.cell)
    clear hL0 hN0 hA3 hb2 hL2 hA4
    go_wp2_with ((at_builtin; refine wpList_app_one rfl (.tmp 24) (.tmp 27) 80 9 rfl Tryd.underlying80 _ str_info (.string ByteArray.empty) rfl rfl rfl 16 rfl (w1.heap.size + 1) _ _ _ rfl HL2.out.own (.string t.data) rfl rfl 9 (show (4 + 1) * 16 ≤ _ by decide) (show 4 + 1 ≤ _ by decide) hbz ?_); intro v3 w3 hO3 hG3; obtain ⟨q3, n3, k3, rfl⟩ := own_shape hO3.out; have hP := HL2.out.put hO3.out hG3.out; have hc3 := cell_of_one hP.1; have hf3 := free_of_one hP.1; have HP := Lib.hid hP.2; have hA5 := HA4.out.below (HL2.out.put_below (v' := .slice q3 n3 k3) hG3.out) hW1 (HA4.out.1.trans ((HL2.out.put_below (v' := .slice q3 n3 k3) hG3.out).mono (Nat.le_of_lt hW1))); have hc4 := cell_of_one hP.2.cell; clear c0 c1 c2 c3 c4 c5 c6 c7; obtain ⟨c0, c1, c2, c3, c4, c5, c6, c7⟩ := hA5.cells; have HA5 := Lib.hid hA5; clear hP hA5 hc2)
    rotate_left
    · have hln : t.lane = false := by assumption
      have hpl : t.parts = numSs t.nums ++ [t.data] := by rw [TX.parts, if_neg (by rw [hln]; decide), List.append_nil]
      have hrd : RdStrs (w3.setCell ⟨w1.heap.size, 0, none⟩ (.slice q3 n3 k3)) (.slice q3 n3 k3) t.parts := by rw [hpl]; exact RdStrs.of_own HP.out.own (show 4 + 1 ≤ _ by decide) (Nat.lt_of_le_of_lt (Nat.zero_le _) (block_lt HP.out.cell))
      refine (list_ok _ t.parts _ hrd (Nat.le_trans TX.parts_length (by decide)) (Nat.le_trans (TX.parts_tot HCK.out) (by decide))).mono ?_
      rintro e w5 ⟨rfl, hb5⟩
      have HB5 := Lib.hid (bw_call HA5.out.1 hb5)
      clear hb5 hln hpl hrd
      go_wp2_with fail
      go_ret2
      rw [hbe.out]
      exact ⟨rfl, HB5.out⟩
    · have hln : t.lane = true := by assumption
      have HIL := Lib.hid (TX.ints_lnums HCK.out hln)
      have hN0 : ((w3.setCell ⟨w1.heap.size, 0, none⟩ (.slice q3 n3 k3)).alloc (.cells (ints t.lnums).toArray 3)).heap[w3.heap.size]? = some (.cells (ints t.lnums).toArray 3 (0, 0)) := by
        have := heap_alloc_new (w3.setCell ⟨w1.heap.size, 0, none⟩ (.slice q3 n3 k3)) (.cells (ints t.lnums).toArray 3)
        rw [show (w3.setCell ⟨w1.heap.size, 0, none⟩ (.slice q3 n3 k3)).heap.size = w3.heap.size by simp [World.setCell]] at this
        exact this
      rw [HIL.out] at hN0
      refine (put_any t.lnums (numSs t.nums ++ [t.data]) _ w1.heap.size w3.heap.size (.slice q3 n3 k3) (mem_get (TX.lnums_le HCK.out hln)) (show 2 ≤ 16 by decide) (show 4 + 1 ≤ 1000 by decide) (HP.out.alloc _) (by rw [HIL.out]; exact hN0)).mono ?_
      rintro e w4 ⟨rfl, ⟨v4, hL4⟩, hb4⟩
      have hpl : t.parts = numSs t.nums ++ [t.data] ++ numSs t.lnums := by rw [TX.parts, if_pos hln]
      rw [← hpl] at hL4
      obtain ⟨q4, n4, k4, rfl⟩ := own_shape hL4.own
      have hc5 := cell_of_one hL4.cell
      have hrd : RdStrs w4 (.slice q4 n4 k4) t.parts := RdStrs.of_own hL4.own (Nat.le_trans TX.parts_length (by decide)) (Nat.lt_of_le_of_lt (Nat.zero_le _) (block_lt hL4.cell))
      have HRD := Lib.hid hrd
      have HB4 := Lib.hid ((bw_alloc HA5.out.1 (.cells #[.int .i64 t.round, .int .i64 t.turn] 3)).trans (hb4.mono (Nat.le_of_lt hW1)))
      clear hL4 hb4 hrd hpl hln hN0 hc4
      go_wp2_with fail
      refine (list_ok _ t.parts _ HRD.out (Nat.le_trans TX.parts_length (by decide)) (Nat.le_trans (TX.parts_tot HCK.out) (by decide))).mono ?_
      rintro e w5 ⟨rfl, hb5⟩
      have HB5 := Lib.hid (bw_call HB4.out hb5)
      clear hb5
      go_wp2_with fail
      go_ret2
      rw [hbe.out]
      exact ⟨rfl, HB5.out⟩
  · have hkb : (k != 0) = true := by simpa using hk0
    have hbe : Hid (b = ByteArray.empty) := show _ = _ by rw [HBS.out, TX.bodyS, if_neg (by rw [← HK.out]; exact hk0)]
    clear hk
    go_enter Tryd.func16, Tryd.ntmps16
    go_wp2_with (with_reducible refine wpList_load_rows rfl 25 (.tmp 1) rfl w.heap.size 0 t.cells t.cells 25 (0, 0) _ rfl hg0 id_at Tryd.underlying25 rfl (tx_info HT.out) ?_)
    refine (check_any t _ HT.out).mono ?_
    rintro e w1 ⟨rfl, hb1⟩
    rw [← HK.out]
    go_wp2_with fail
    go_ret2
    rw [hbe.out]
    exact ⟨rfl, bw_call (bw_alloc (Below.refl _ _) _) hb1⟩
open Go.RowKit
theorem conv_tx {w W : World} {t : TX} (h : TxAt w W t) {l : List UInt8} {off : Nat} (hl : l.length = 32) (hc : ∀ j v, (u8s l)[j]? = some v → t.cells[off + j]? = some v) (c : Nat) :
    (convert 79 9 (.slice (some ⟨w.heap.size, off, none⟩) 32 c)).run Tryd.prog W = .ok (.string (bstr l)) W :=
  conv_row l Tryd.underlying79 Tryd.underlying5 Tryd.underlying9 hl fun i hi => by
    have h1 := u8s_get l i (by omega)
    rw [h1]
    exact h.cell _ _ (hc i _ h1)
theorem own_pos {w : World} {base n size : Nat} {e : TypeId} {v : Value} {xs : List Value} (h : w.ownsRow base e size v (n + 1) xs) : 0 < w.heap.size := by
  rcases h.2 with ⟨_, h0⟩ | ⟨g, cap, cur, _, _, hg, _⟩
  · cases h0
  · exact Nat.lt_of_le_of_lt (Nat.zero_le _) (block_lt hg)
set_option maxHeartbeats 1000000 in
set_option maxRecDepth 4000 in
theorem ttext_any (t : TX) (w : World) (ht : t.wf) :
    Calls Tryd.prog 13 #[.agg t.cells.toArray] w fun e w' => e = .returned (.tuple #[.string t.textS, .int .i64 t.chk]) ∧ Below w.heap.size w w' := by
  have HT := Lib.hid ht
  have hA0 := TxAt.start w t
  have hg0 := hA0.2
  have HA0 := Lib.hid hA0
  clear hA0 ht
  obtain ⟨k, hk⟩ : ∃ k, k = t.chk := ⟨_, rfl⟩
  obtain ⟨b, hb⟩ : ∃ b, b = t.textS := ⟨_, rfl⟩
  have HK := Lib.hid hk
  have HBS := Lib.hid hb
  rw [← hk, ← hb]
  clear hb
  have hlt : w.heap.size < (w.alloc (.cells t.cells.toArray 25)).heap.size := by simp
  by_cases hk0 : k = 0
  · subst hk0
    have hck : t.chk = 0 := hk.symm
    have HCK := Lib.hid hck
    have hbe : Hid (b = bstr (encList t.tparts)) := show _ = _ by rw [HBS.out, TX.textS, if_pos hck]; rfl
    have hbd : Hid (t.bodyS = bstr t.body) := show _ = _ by rw [TX.bodyS, if_pos hck]
    clear hk hck
    cases hln : t.lane with
    | false =>
      have HLN := Lib.hid hln
      have hpl : t.tparts = [bstr t.body, bstr t.tag] := by rw [TX.tparts, if_neg (by rw [hln]; decide), List.append_nil]
      have HPL := Lib.hid hpl
      clear hln hpl
      go_enter Tryd.func13, Tryd.ntmps13
      go_wp2_with (with_reducible refine wpList_load_rows rfl 25 (.tmp 1) rfl w.heap.size 0 t.cells t.cells 25 (0, 0) _ rfl hg0 id_at Tryd.underlying25 rfl (tx_info HT.out) ?_)
      refine (body_any t _ HT.out).mono ?_
      rintro e w1 ⟨rfl, hb1⟩
      rw [← HK.out, hbd.out]
      have hA1 := HA0.out.below hb1 hlt (bw_call (bw_alloc (Below.refl _ _) _) hb1)
      have hcv := fun c => conv_tx hA1 HT.out.tag (TX.at_tag HT.out.by_) c
      have hc5 : w1.cell? ⟨w.heap.size, 5, none⟩ = some (.bool false) := by have := hA1.cell 5 _ rfl; rw [HLN.out] at this; exact this
      have hc6 := fun Z => (Below.cell (bw_alloc (Below.refl w1.heap.size w1) Z) (p := ⟨w.heap.size, 5, none⟩) (block_lt hA1.2)).trans hc5
      have HA1 := Lib.hid hA1
      clear hA1 hb1
      go_wp2_with fail
      have hrd := rd_two (w := w1) (x := bstr t.body) (y := bstr t.tag) (t := 9) rfl
      rw [← HPL.out] at hrd
      refine (list_ok _ t.tparts _ hrd (Nat.le_trans TX.tparts_length (by decide)) (Nat.le_trans (TX.tparts_tot HCK.out HT.out) (by decide))).mono ?_
      rintro e w5 ⟨rfl, hb5⟩
      have HB5 := Lib.hid (bw_call (bw_alloc HA1.out.1 _) hb5)
      clear hb5 hrd
      go_wp2_with fail
      go_ret2
      rw [hbe.out]
      exact ⟨rfl, HB5.out⟩
    | true =>
      have HLN := Lib.hid hln
      have hpl : t.tparts = [bstr t.body, bstr t.tag] ++ [bstr t.by_] := by rw [TX.tparts, if_pos hln]
      have HPL := Lib.hid hpl
      clear hln hpl
      go_enter Tryd.func13, Tryd.ntmps13
      go_wp2_with (with_reducible refine wpList_load_rows rfl 25 (.tmp 1) rfl w.heap.size 0 t.cells t.cells 25 (0, 0) _ rfl hg0 id_at Tryd.underlying25 rfl (tx_info HT.out) ?_)
      refine (body_any t _ HT.out).mono ?_
      rintro e w1 ⟨rfl, hb1⟩
      rw [← HK.out, hbd.out]
      have hA1 := HA0.out.below hb1 hlt (bw_call (bw_alloc (Below.refl _ _) _) hb1)
      have hcv := fun c => conv_tx hA1 HT.out.tag (TX.at_tag HT.out.by_) c
      have hcw := fun Z c => conv_tx (hA1.below (bw_alloc (Below.refl w1.heap.size w1) Z) (block_lt hA1.2) (bw_alloc hA1.1 Z)) HT.out.by_ TX.at_by c
      have hc5 : w1.cell? ⟨w.heap.size, 5, none⟩ = some (.bool true) := by have := hA1.cell 5 _ rfl; rw [HLN.out] at this; exact this
      have hc6 := fun Z => (Below.cell (bw_alloc (Below.refl w1.heap.size w1) Z) (p := ⟨w.heap.size, 5, none⟩) (block_lt hA1.2)).trans hc5
      have hO : (w1.alloc (.cells #[.string (bstr t.body), .string (bstr t.tag)] 9)).ownsRow w1.heap.size 9 1 (.slice (some ⟨w1.heap.size, 0, none⟩) 2 2) 2 (strs [bstr t.body, bstr t.tag]) :=
        ⟨rfl, .inr ⟨_, 2, #[.string (bstr t.body), .string (bstr t.tag)], rfl, Nat.le_refl _, heap_alloc_new w1 _, Nat.le_refl _, by simp [maxLen], rfl, rfl⟩⟩
      have HO := Lib.hid hO
      have hs1 := hA1.1.size
      have HB1 := Lib.hid (bw_alloc hA1.1 (.cells #[.string (bstr t.body), .string (bstr t.tag)] 9))
      clear hA1 hb1 hO
      go_wp2_with (at_builtin; refine wpList_app1 rfl (.tmp 22) (.tmp 26) 80 9 rfl Tryd.underlying80 _ str_info (.string ByteArray.empty) rfl rfl rfl 16 rfl w1.heap.size _ 2 _ rfl HO.out (.string (bstr t.by_)) rfl (by show Value.slice (some ⟨w1.heap.size + 1, 0, none⟩) 1 1 = _; simp) 9 (by decide) (by decide) w HB1.out (by simp) hs1 ?_; intro v3 w3 hO3 hB3)
      have hrd : RdStrs w3 v3 t.tparts := by rw [HPL.out]; exact RdStrs.of_own hO3.out (by decide) (own_pos hO3.out)
      refine (list_ok _ t.tparts _ hrd (Nat.le_trans TX.tparts_length (by decide)) (Nat.le_trans (TX.tparts_tot HCK.out HT.out) (by decide))).mono ?_
      rintro e w5 ⟨rfl, hb5⟩
      have HB5 := Lib.hid (bw_call hB3.out hb5)
      clear hb5 hrd
      go_wp2_with fail
      go_ret2
      rw [hbe.out]
      exact ⟨rfl, HB5.out⟩
  · have hkb : (k != 0) = true := by simpa using hk0
    have hbe : Hid (b = ByteArray.empty) := show _ = _ by rw [HBS.out, TX.textS, if_neg (by rw [← HK.out]; exact hk0)]
    clear hk
    go_enter Tryd.func13, Tryd.ntmps13
    go_wp2_with (with_reducible refine wpList_load_rows rfl 25 (.tmp 1) rfl w.heap.size 0 t.cells t.cells 25 (0, 0) _ rfl hg0 id_at Tryd.underlying25 rfl (tx_info HT.out) ?_)
    refine (body_any t _ HT.out).mono ?_
    rintro e w1 ⟨rfl, hb1⟩
    rw [← HK.out]
    go_wp2_with fail
    go_ret2
    rw [hbe.out]
    exact ⟨rfl, bw_call (bw_alloc (Below.refl _ _) _) hb1⟩
open Go.RowKit
/-- a list that is all of a text -/
def rdAll (s : ByteArray) : Except Int (List ByteArray) :=
  match rdL s.data.toList with
  | .error e => .error e
  | .ok (ts, c) => if c = s.size then .ok ts else .error 6
def tlPost (w : World) (r : Except Int (List ByteArray)) (e : Ending) (w' : World) : Prop :=
  Below w.heap.size w w' ∧ match r with
  | .error x => ∃ v, e = .returned (.tuple #[v, .int .i64 x])
  | .ok ts => ∃ v, e = .returned (.tuple #[v, .int .i64 0]) ∧ w'.ownsRow w.heap.size 9 1 v ts.length (strs ts)
theorem rdL_err {l : List UInt8} {e : Int} (h : rdL l = .error e) : e = 3 ∨ e = 5 ∨ e = 6 := by
  have h1 : ∀ (n left : Nat) (l : List UInt8) (e : Int), rdLs n left l = .error e → e = 3 ∨ e = 5 ∨ e = 6 := by
    intro n
    induction n with
    | zero => intro left l e h; simp [rdLs] at h
    | succ n ih =>
      intro left l e h
      simp only [rdLs] at h
      split at h
      · rename_i ht; simp at h; subst h; exact rdT_err ht
      · split at h
        · simp at h; omega
        · split at h
          · rename_i ht; simp at h; subst h; exact ih _ _ _ ht
          · simp at h
  unfold rdL at h
  split at h
  · rename_i hn; simp at h; subst h; have := rdN_err hn; omega
  · split at h
    · simp at h; omega
    · split at h
      · rename_i ht; simp at h; subst h; exact h1 _ _ _ _ ht
      · simp at h
theorem rdAll_err {s : ByteArray} {e : Int} (h : rdAll s = .error e) : (e != 0) = true := by
  unfold rdAll at h
  split at h
  · rename_i hn; simp at h; subst h; exact ne0_of3 (rdL_err hn)
  · split at h
    · simp at h
    · simp at h; subst h; rfl
set_option maxHeartbeats 1000000 in
set_option maxRecDepth 4000 in
theorem tlist_any (s : ByteArray) (w : World) (hs : s.size ≤ 140737488355328) : Calls Tryd.prog 58 #[.string s] w (tlPost w (rdAll s)) := by
  have HC := rl_any s 0
  rw [List.drop_zero] at HC
  cases hr : rdL s.data.toList with
  | error x =>
    have hx0 : (x != 0) = true := ne0_of3 (rdL_err hr)
    have hx1 : (x == 0) = false := by simpa using hx0
    have hR : rdAll s = .error x := by simp [rdAll, hr]
    rw [hr] at HC
    rw [hR]
    clear hr hR
    go_enter Tryd.func58, Tryd.ntmps58
    go_wp2_with fail
    refine (HC _ hs (Nat.zero_le _)).mono ?_
    rintro e w1 ⟨hb, rfl⟩
    go_wp2_with fail
    go_ret2
    exact ⟨hb, _, rfl⟩
  | ok p =>
    obtain ⟨ts, c⟩ := p
    have h0 := rdL_ok hr
    have hL : s.data.toList.length = s.size := rfl
    rw [hr] at HC
    by_cases hc : c = s.size
    · have hR : rdAll s = .ok ts := by simp [rdAll, hr, hc]
      have hc2 : (c : Int) = s.size := by omega
      rw [hR]
      clear hr hR
      go_enter Tryd.func58, Tryd.ntmps58
      go_wp2_with fail
      refine (HC _ hs (Nat.zero_le _)).mono ?_
      rintro e w1 ⟨hb, v, rfl, ho⟩
      have HB := Lib.hid hb
      have HO := Lib.hid ho
      clear hb ho
      rw [Nat.zero_add]
      go_wp2_with fail
      go_ret2
      exact ⟨HB.out, v, rfl, HO.out⟩
    · have hR : rdAll s = .error 6 := by simp [rdAll, hr, hc]
      have hc2 : ¬((c : Int) = s.size) := by omega
      have hc3 : (c : Int) < s.size := by omega
      rw [hR]
      clear hr hR
      go_enter Tryd.func58, Tryd.ntmps58
      go_wp2_with fail
      refine (HC _ hs (Nat.zero_le _)).mono ?_
      rintro e w1 ⟨hb, v, rfl, ho⟩
      have HB := Lib.hid hb
      have HO := Lib.hid ho
      clear hb ho
      rw [Nat.zero_add]
      go_wp2_with fail
      go_ret2
      exact ⟨HB.out, v, rfl⟩
def TX.zero : TX := ⟨0, 0, 0, 0, ByteArray.empty, false, 0, 0, z32, z32⟩
/-- 72 zeros, written out -/
abbrev zlTx : List Value := .int .i64 0 :: .int .i64 0 :: .int .i64 0 :: .int .i64 0 :: .string ByteArray.empty :: .bool false :: .int .i64 0 :: .int .i64 0 :: .int .u8 0 :: .int .u8 0 :: .int .u8 0 :: .int .u8 0 :: .int .u8 0 :: .int .u8 0 :: .int .u8 0 :: .int .u8 0 :: .int .u8 0 :: .int .u8 0 :: .int .u8 0 :: .int .u8 0 :: .int .u8 0 :: .int .u8 0 :: .int .u8 0 :: .int .u8 0 :: .int .u8 0 :: .int .u8 0 :: .int .u8 0 :: .int .u8 0 :: .int .u8 0 :: .int .u8 0 :: .int .u8 0 :: .int .u8 0 :: .int .u8 0 :: .int .u8 0 :: .int .u8 0 :: .int .u8 0 :: .int .u8 0 :: .int .u8 0 :: .int .u8 0 :: .int .u8 0 :: zl32
theorem zlTx_eq : zlTx = TX.zero.cells := rfl
theorem i64_zero : i64ok 0 := ⟨by decide, by decide⟩
theorem TX.zero_wf : TX.zero.wf := ⟨i64_zero, i64_zero, i64_zero, i64_zero, by decide, i64_zero, i64_zero, rfl, rfl⟩
/-- a number that is all of a text -/
def rdNum (s : ByteArray) : Except Int Nat :=
  match rdN s.data.toList with
  | .error e => .error e
  | .ok (n, c) => if c = s.size then .ok n else .error 6
/-- its number i set -/
def TX.upd (t : TX) (i : Nat) (n : Int) : TX :=
  match i with
  | 0 => { t with frm := n }
  | 1 => { t with nonce := n }
  | 2 => { t with fee := n }
  | 3 => { t with to_ := n }
  | 5 => { t with round := n }
  | 6 => { t with turn := n }
  | _ => t
/-- where its number i lies -/
def numOff (i : Nat) : Nat := if i < 4 then i else i + 1
def rdNums : Nat → List ByteArray → TX → Except Int TX
  | _, [], t => .ok t
  | k, x :: xs, t => if k = 4 then rdNums (k + 1) xs t else
    match rdNum x with
    | .error e => .error e
    | .ok n => rdNums (k + 1) xs (t.upd k n)
theorem TX.upd_cells (t : TX) (k : Nat) (n : Int) (hk : k < 7) (h4 : k ≠ 4) : t.cells.set (numOff k) (.int .i64 n) = (t.upd k n).cells := by
  match k with
  | 0 | 1 | 2 | 3 | 5 | 6 => rfl
  | 4 => exact absurd rfl h4
theorem TX.upd_wf {t : TX} (h : t.wf) (k : Nat) (n : Nat) (hn : n ≤ 9223372036854775807) : (t.upd k n).wf := by
  have h1 : i64ok n := ⟨by omega, by omega⟩
  obtain ⟨a, b, c, d, e, f, g, i, j⟩ := h
  unfold TX.upd
  split <;> exact ⟨by first | exact h1 | exact a, by first | exact h1 | exact b, by first | exact h1 | exact c, by first | exact h1 | exact d, e, by first | exact h1 | exact f, by first | exact h1 | exact g, i, j⟩
theorem TX.upd_same (t : TX) (k : Nat) (n : Int) : (t.upd k n).data = t.data ∧ (t.upd k n).lane = t.lane ∧ (t.upd k n).by_ = t.by_ ∧ (t.upd k n).tag = t.tag := by
  unfold TX.upd
  split <;> exact ⟨rfl, rfl, rfl, rfl⟩
/-- with its By read -/
def setBy (t : TX) (l : List UInt8) : TX := { t with by_ := l }
/-- checked at the end -/
def rdEnd (t : TX) : Except Int TX := if t.chk = 0 then .ok t else .error t.chk
def rdBody (b : List ByteArray) (t : TX) (by_ : List UInt8) : Except Int TX :=
  match rdNums 0 b t with
  | .error e => .error e
  | .ok t => rdEnd (if t.lane = true then setBy t by_ else t)
/-- the transaction ahead of its numbers -/
def TX.start (d : ByteArray) (lane : Bool) (tag : List UInt8) : TX := ⟨0, 0, 0, 0, d, lane, 0, 0, z32, tag⟩
/-- the list of a transaction's text read on -/
def rdParts (x y : ByteArray) (z : Option ByteArray) : Except Int TX :=
  match rdAll x with
  | .error e => .error e
  | .ok b => if b.length ≠ (if z.isSome = true then 7 else 5) then .error 6
    else rdBody b (TX.start (b.getD 4 ByteArray.empty) z.isSome y.data.toList) ((z.map fun v => v.data.toList).getD z32)
def rdTx (s : ByteArray) : Except Int TX :=
  match rdAll s with
  | .error e => .error e
  | .ok [x, y] => if y.size = 32 then rdParts x y none else .error 6
  | .ok [x, y, z] => if y.size = 32 ∧ z.size = 32 then rdParts x y (some z) else .error 6
  | .ok _ => .error 6
def txOf (r : Except Int TX) : TX := match r with | .ok t => t | .error _ => TX.zero
def errOf (r : Except Int TX) : Int := match r with | .ok _ => 0 | .error e => e
/-- behind its first k numbers -/
def rdRest (k : Nat) (b : List ByteArray) (t : TX) (h : List UInt8) : Except Int TX :=
  match rdNums k (b.drop k) t with
  | .error e => .error e
  | .ok t => rdEnd (if t.lane = true then setBy t h else t)
theorem rdRest_zero (b : List ByteArray) (t : TX) (h : List UInt8) : rdBody b t h = rdRest 0 b t h := rfl
theorem rdRest_end {k : Nat} {b : List ByteArray} {t : TX} {h : List UInt8} (hk : k = b.length) : rdRest k b t h = rdEnd (if t.lane = true then setBy t h else t) := by
  subst hk
  unfold rdRest
  rw [List.drop_length]
  simp [rdNums]
theorem rdRest_skip {b : List ByteArray} {t : TX} {h : List UInt8} (hk : 4 < b.length) : rdRest 4 b t h = rdRest 5 b t h := by
  unfold rdRest
  rw [List.drop_eq_getElem_cons hk, rdNums, if_pos rfl]
theorem rdRest_err {k : Nat} {b : List ByteArray} {t : TX} {h : List UInt8} (hk : k < b.length) (h4 : k ≠ 4) {e : Int} (hx : rdNum (b[k]'hk) = .error e) : rdRest k b t h = .error e := by
  unfold rdRest
  rw [List.drop_eq_getElem_cons hk, rdNums, if_neg h4, hx]
theorem rdRest_ok {k : Nat} {b : List ByteArray} {t : TX} {h : List UInt8} (hk : k < b.length) (h4 : k ≠ 4) {n : Nat} (hx : rdNum (b[k]'hk) = .ok n) : rdRest k b t h = rdRest (k + 1) b (t.upd k n) h := by
  unfold rdRest
  rw [List.drop_eq_getElem_cons hk, rdNums, if_neg h4, hx]
theorem TX.start_wf {d : ByteArray} {l : Bool} {h : List UInt8} (hd : d.size ≤ 65536) (hl : h.length = 32) : (TX.start d l h).wf := ⟨i64_zero, i64_zero, i64_zero, i64_zero, Nat.le_trans hd (by decide), i64_zero, i64_zero, rfl, hl⟩
theorem rdLs_sizes : ∀ {n left : Nat} {l : List UInt8} {ts : List ByteArray} {c : Nat}, rdLs n left l = .ok (ts, c) → ∀ x ∈ ts, x.size ≤ 65536
  | 0, left, l, ts, c, h => by simp [rdLs] at h; obtain ⟨rfl, rfl⟩ := h; simp
  | n + 1, left, l, ts, c, h => by
    simp only [rdLs] at h
    split at h
    · simp at h
    · rename_i t d ht
      have h0 := rdT_ok ht
      split at h
      · simp at h
      · split at h
        · simp at h
        · rename_i us d2 hu
          simp only [Except.ok.injEq, Prod.mk.injEq] at h
          obtain ⟨rfl, rfl⟩ := h
          intro x hx
          rcases List.mem_cons.1 hx with rfl | hx
          · rw [bstr_size]; omega
          · exact rdLs_sizes hu x hx
theorem rdAll_sizes {s : ByteArray} {ts : List ByteArray} (h : rdAll s = .ok ts) : ∀ x ∈ ts, x.size ≤ 65536 := by
  unfold rdAll at h
  split at h
  · simp at h
  · rename_i us c hc
    split at h
    · simp at h
      subst h
      unfold rdL at hc
      split at hc
      · simp at hc
      · split at hc
        · simp at hc
        · split at hc
          · simp at hc
          · rename_i vs d hv
            simp only [Except.ok.injEq, Prod.mk.injEq] at hc
            obtain ⟨rfl, rfl⟩ := hc
            exact rdLs_sizes hv
    · simp at h
end Go.Proofs.YtckfdmkjeocadaaDoor
