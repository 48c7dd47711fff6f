/- A transaction in plain Lean. -/
import Derived.Test.YtckfdmkjeocadaaDoorBuild
import Derived.Test.YtckfdmkjeocadaaDoorList
namespace Go.Proofs.YtckfdmkjeocadaaDoor
structure TX where
  frm : Int
  nonce : Int
  fee : Int
  to_ : Int
  data : ByteArray
  lane : Bool
  round : Int
  turn : Int
  by_ : List UInt8
  tag : List UInt8
def i64ok (n : Int) : Prop := -9223372036854775808 ≤ n ∧ n ≤ 9223372036854775807
structure TX.wf (t : TX) : Prop where
  frm : i64ok t.frm
  nonce : i64ok t.nonce
  fee : i64ok t.fee
  to_ : i64ok t.to_
  data : t.data.size ≤ 140737488351232
  round : i64ok t.round
  turn : i64ok t.turn
  by_ : t.by_.length = 32
  tag : t.tag.length = 32
def TX.cells (t : TX) : List Value := [.int .i64 t.frm, .int .i64 t.nonce, .int .i64 t.fee, .int .i64 t.to_, .string t.data, .bool t.lane, .int .i64 t.round, .int .i64 t.turn] ++ (u8s t.by_ ++ u8s t.tag)
theorem TX.cells_length (t : TX) (h1 : t.by_.length = 32) (h2 : t.tag.length = 32) : t.cells.length = 72 := by simp [TX.cells, u8s_length, h1, h2]
theorem TX.at_by {t : TX} : ∀ j v, (u8s t.by_)[j]? = some v → t.cells[8 + j]? = some v := by
  intro j v h
  unfold TX.cells
  rw [List.getElem?_append_right (by simp), List.getElem?_append_left]
  · simpa using h
  · have := (List.getElem?_eq_some_iff.1 h).1
    simpa using this
theorem TX.at_tag {t : TX} (h1 : t.by_.length = 32) : ∀ j v, (u8s t.tag)[j]? = some v → t.cells[40 + j]? = some v := by
  intro j v h
  unfold TX.cells
  rw [List.getElem?_append_right (by simp; omega), List.getElem?_append_right (by simp [u8s_length, h1]; omega)]
  simp only [List.length_cons, List.length_nil, u8s_length, h1]
  rw [show 40 + j - (0 + 1 + 1 + 1 + 1 + 1 + 1 + 1 + 1) - 32 = j by omega]
  exact h
def numOk (n : Int) : Bool := decide (0 ≤ n ∧ n ≤ 1099511627776)
def whoOk (n : Int) : Bool := decide (0 ≤ n ∧ n < 64)
/-- what is wrong with it -/
def TX.chk (t : TX) : Int :=
  if (!whoOk t.frm || !whoOk t.to_) = true then 20
  else if (!numOk t.nonce || !numOk t.fee) = true then 2
  else if (t.lane && (!numOk t.round || !numOk t.turn)) = true then 2
  else if (!t.lane && (t.round != 0 || t.turn != 0 || t.by_ != z32)) = true then 2
  else if 256 < t.data.size then 3 else 0
section
variable {t : TX}
theorem TX.chk_who (h : ¬(((0 ≤ t.frm ∧ t.frm < 64) ∧ 0 ≤ t.to_) ∧ t.to_ < 64)) : t.chk = 20 := by
  unfold TX.chk whoOk
  rw [if_pos]
  simp only [Bool.or_eq_true, Bool.not_eq_true', decide_eq_false_iff_not]
  omega
theorem TX.whos (h : ((0 ≤ t.frm ∧ t.frm < 64) ∧ 0 ≤ t.to_) ∧ t.to_ < 64) : (!whoOk t.frm || !whoOk t.to_) = false := by
  simp only [whoOk, Bool.or_eq_false_iff, Bool.not_eq_false', decide_eq_true_iff]
  omega
theorem TX.chk_num (h : ((0 ≤ t.frm ∧ t.frm < 64) ∧ 0 ≤ t.to_) ∧ t.to_ < 64) (h2 : (numOk t.nonce && numOk t.fee) = false) : t.chk = 2 := by
  unfold TX.chk
  rw [TX.whos h]
  cases h3 : numOk t.nonce <;> cases h4 : numOk t.fee <;> simp_all
theorem TX.chk_lane (h : ((0 ≤ t.frm ∧ t.frm < 64) ∧ 0 ≤ t.to_) ∧ t.to_ < 64) (h1 : numOk t.nonce = true) (h2 : numOk t.fee = true) (h3 : t.lane = true) (h4 : (numOk t.round && numOk t.turn) = false) : t.chk = 2 := by
  unfold TX.chk
  rw [TX.whos h]
  cases h5 : numOk t.round <;> cases h6 : numOk t.turn <;> simp_all
theorem TX.chk_none (h : ((0 ≤ t.frm ∧ t.frm < 64) ∧ 0 ≤ t.to_) ∧ t.to_ < 64) (h1 : numOk t.nonce = true) (h2 : numOk t.fee = true) (h3 : t.lane = false) (h4 : ¬(t.round = 0 ∧ t.turn = 0 ∧ t.by_ = z32)) : t.chk = 2 := by
  unfold TX.chk
  rw [TX.whos h]
  by_cases h5 : t.round = 0 <;> by_cases h6 : t.turn = 0 <;> by_cases h7 : t.by_ = z32 <;> simp_all
theorem TX.chk_none2 (h : ((0 ≤ t.frm ∧ t.frm < 64) ∧ 0 ≤ t.to_) ∧ t.to_ < 64) (h1 : numOk t.nonce = true) (h2 : numOk t.fee = true) (h3 : t.lane = false) (h4 : (!decide (t.round = 0)) = true ∨ (!decide (t.turn = 0)) = true ∨ (!decide (t.by_ = z32)) = true) : t.chk = 2 := by
  refine TX.chk_none h h1 h2 h3 ?_
  rintro ⟨h5, h6, h7⟩
  simp only [h5, h6, h7, decide_true, Bool.not_true, Bool.false_eq_true, or_self] at h4
/-- the lane's words are in order -/
def TX.lok (t : TX) : Prop := if t.lane = true then (numOk t.round && numOk t.turn) = true else t.round = 0 ∧ t.turn = 0 ∧ t.by_ = z32
theorem TX.chk_data (h : ((0 ≤ t.frm ∧ t.frm < 64) ∧ 0 ≤ t.to_) ∧ t.to_ < 64) (h1 : numOk t.nonce = true) (h2 : numOk t.fee = true) (h3 : t.lok) (h4 : 256 < (t.data.size : Int)) : t.chk = 3 := by
  have h5 : 256 < t.data.size := by omega
  unfold TX.chk
  unfold TX.lok at h3
  rw [TX.whos h]
  cases h6 : t.lane <;> simp_all
theorem TX.chk_ok (h : ((0 ≤ t.frm ∧ t.frm < 64) ∧ 0 ≤ t.to_) ∧ t.to_ < 64) (h1 : numOk t.nonce = true) (h2 : numOk t.fee = true) (h3 : t.lok) (h4 : (t.data.size : Int) ≤ 256) : t.chk = 0 := by
  have h5 : ¬256 < t.data.size := by omega
  unfold TX.chk
  unfold TX.lok at h3
  rw [TX.whos h]
  cases h6 : t.lane <;> simp_all
theorem TX.chk_zero (h : t.chk = 0) : (((0 ≤ t.frm ∧ t.frm < 64) ∧ 0 ≤ t.to_) ∧ t.to_ < 64) ∧ (0 ≤ t.nonce ∧ t.nonce ≤ 1099511627776) ∧ (0 ≤ t.fee ∧ t.fee ≤ 1099511627776) ∧ t.lok ∧ t.data.size ≤ 256 := by
  by_cases hw : ((0 ≤ t.frm ∧ t.frm < 64) ∧ 0 ≤ t.to_) ∧ t.to_ < 64
  · cases h1 : numOk t.nonce with
    | false => rw [TX.chk_num hw (by simp [h1])] at h; cases h
    | true =>
      cases h2 : numOk t.fee with
      | false => rw [TX.chk_num hw (by simp [h2])] at h; cases h
      | true =>
        by_cases hl : t.lok
        · by_cases hd : 256 < t.data.size
          · rw [TX.chk_data hw h1 h2 hl (by omega)] at h; cases h
          · simp only [numOk, decide_eq_true_iff] at h1 h2
            exact ⟨hw, h1, h2, hl, by omega⟩
        · unfold TX.lok at hl
          cases h3 : t.lane with
          | true => rw [h3, if_pos rfl] at hl; rw [TX.chk_lane hw h1 h2 h3 (by simpa using hl)] at h; cases h
          | false => rw [h3, if_neg (by decide)] at hl; rw [TX.chk_none hw h1 h2 h3 hl] at h; cases h
  · rw [TX.chk_who hw] at h; cases h
theorem TX.lane_zero_ok (h : t.lok) (hl : t.lane = true) : (0 ≤ t.round ∧ t.round ≤ 1099511627776) ∧ (0 ≤ t.turn ∧ t.turn ≤ 1099511627776) := by
  unfold TX.lok at h
  rw [if_pos hl] at h
  simp only [Bool.and_eq_true, numOk, decide_eq_true_iff] at h
  exact h
end
def numS (n : Nat) : ByteArray := bstr (numEnc n)
def numSs (l : List Nat) : List ByteArray := l.map numS
def TX.nums (t : TX) : List Nat := [t.frm.toNat, t.nonce.toNat, t.fee.toNat, t.to_.toNat]
def TX.lnums (t : TX) : List Nat := [t.round.toNat, t.turn.toNat]
/-- what is signed, as strings -/
def TX.parts (t : TX) : List ByteArray := numSs t.nums ++ [t.data] ++ if t.lane = true then numSs t.lnums else []
def TX.body (t : TX) : List UInt8 := encList t.parts
def TX.bodyS (t : TX) : ByteArray := if t.chk = 0 then bstr t.body else ByteArray.empty
theorem numS_size {n : Nat} (h : n ≤ 1099511627776) : (numS n).size ≤ 7 := by
  rw [numS, bstr_size, numEnc_length]
  have := numB_length_le 6 n (by omega)
  omega
theorem numSs_tot : ∀ (l : List Nat), (∀ x ∈ l, x ≤ 1099511627776) → tot (numSs l) ≤ 7 * l.length
  | [], _ => by simp [tot, numSs]
  | x :: l, h => by
    have h1 := numS_size (h x (by simp))
    have h2 := numSs_tot l fun y hy => h y (by simp [hy])
    simp only [tot, numSs, List.map_cons, List.sum_cons, List.length_cons] at h2 ⊢
    omega
theorem tot_append (a b : List ByteArray) : tot (a ++ b) = tot a + tot b := by simp [tot]
section
variable {t : TX}
theorem TX.nums_le (h : t.chk = 0) : ∀ x ∈ t.nums, x ≤ 1099511627776 := by
  have h2 := TX.chk_zero h
  intro x hx
  simp only [TX.nums, List.mem_cons, List.not_mem_nil, or_false] at hx
  rcases hx with rfl | rfl | rfl | rfl <;> omega
theorem TX.lnums_le (h : t.chk = 0) (hl : t.lane = true) : ∀ x ∈ t.lnums, x ≤ 1099511627776 := by
  have h2 := TX.lane_zero_ok (TX.chk_zero h).2.2.2.1 hl
  intro x hx
  simp only [TX.lnums, List.mem_cons, List.not_mem_nil, or_false] at hx
  rcases hx with rfl | rfl <;> omega
theorem TX.parts_length : t.parts.length ≤ 7 := by
  unfold TX.parts
  cases t.lane <;> simp [numSs, TX.nums, TX.lnums]
theorem TX.parts_tot (h : t.chk = 0) : tot t.parts ≤ 400 := by
  have h1 := numSs_tot _ (TX.nums_le h)
  have h2 := (TX.chk_zero h).2.2.2.2
  have h3 : tot [t.data] = t.data.size := by simp [tot]
  have h4 : tot (if t.lane = true then numSs t.lnums else []) ≤ 14 := by
    cases hl : t.lane with
    | true => rw [if_pos rfl]; exact numSs_tot _ (TX.lnums_le h hl)
    | false => simp [tot]
  have h5 : t.nums.length = 4 := rfl
  unfold TX.parts
  rw [tot_append, tot_append]
  omega
def TX.tparts (t : TX) : List ByteArray := [bstr t.body, bstr t.tag] ++ if t.lane = true then [bstr t.by_] else []
def TX.text (t : TX) : List UInt8 := encList t.tparts
def TX.textS (t : TX) : ByteArray := if t.chk = 0 then bstr t.text else ByteArray.empty
theorem encList_length {ls : List ByteArray} (h : ls.length ≤ 1024) (ht : tot ls ≤ 65536) : (encList ls).length ≤ tot ls + 4 * ls.length + 4 := by
  have h1 := encd_tot ls fun s hs => Nat.le_trans (size_le_tot hs) ht
  have h2 := num_small (n := ls.length) (by omega)
  rw [← flat_encd, flat_length]
  simp only [tot, List.map_cons, List.sum_cons, bstr_size] at h1 ⊢
  omega
theorem TX.body_length (h : t.chk = 0) : t.body.length ≤ 432 := by
  have h1 := TX.parts_tot h
  have h2 := TX.parts_length (t := t)
  have := encList_length (ls := t.parts) (by omega) (by omega)
  unfold TX.body
  omega
theorem TX.tparts_length : t.tparts.length ≤ 3 := by
  unfold TX.tparts
  cases t.lane <;> simp
theorem TX.tparts_tot (h : t.chk = 0) (ht : t.wf) : tot t.tparts ≤ 500 := by
  have h1 := TX.body_length h
  have h2 := ht.by_
  have h3 := ht.tag
  unfold TX.tparts
  cases t.lane <;> simp [tot, bstr_size] <;> omega
end
end Go.Proofs.YtckfdmkjeocadaaDoor
