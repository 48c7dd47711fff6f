/- tx.Read in plain Lean. -/
import Derived.Test.YtckfdmkjeocadaaDoorTList
namespace Go.Proofs.YtckfdmkjeocadaaDoor
def TX.zero : TX := ⟨0, 0, 0, 0, ByteArray.empty, false, 0, 0, z32, z32⟩
/-- 72 zeros, written out -/
abbrev zlTx : List Value := .int .i64 0 :: .int .i64 0 :: .int .i64 0 :: .int .i64 0 :: .string ByteArray.empty :: .bool false :: .int .i64 0 :: .int .i64 0 :: .int .u8 0 :: .int .u8 0 :: .int .u8 0 :: .int .u8 0 :: .int .u8 0 :: .int .u8 0 :: .int .u8 0 :: .int .u8 0 :: .int .u8 0 :: .int .u8 0 :: .int .u8 0 :: .int .u8 0 :: .int .u8 0 :: .int .u8 0 :: .int .u8 0 :: .int .u8 0 :: .int .u8 0 :: .int .u8 0 :: .int .u8 0 :: .int .u8 0 :: .int .u8 0 :: .int .u8 0 :: .int .u8 0 :: .int .u8 0 :: .int .u8 0 :: .int .u8 0 :: .int .u8 0 :: .int .u8 0 :: .int .u8 0 :: .int .u8 0 :: .int .u8 0 :: .int .u8 0 :: zl32
theorem zlTx_eq : zlTx = TX.zero.cells := rfl
theorem i64_zero : i64ok 0 := ⟨by decide, by decide⟩
theorem TX.zero_wf : TX.zero.wf := ⟨i64_zero, i64_zero, i64_zero, i64_zero, by decide, i64_zero, i64_zero, rfl, rfl⟩
/-- a number that is all of a text -/
def rdNum (s : ByteArray) : Except Int Nat :=
  match rdN s.data.toList with
  | .error e => .error e
  | .ok (n, c) => if c = s.size then .ok n else .error 6
/-- its number i set -/
def TX.upd (t : TX) (i : Nat) (n : Int) : TX :=
  match i with
  | 0 => { t with frm := n }
  | 1 => { t with nonce := n }
  | 2 => { t with fee := n }
  | 3 => { t with to_ := n }
  | 5 => { t with round := n }
  | 6 => { t with turn := n }
  | _ => t
/-- where its number i lies -/
def numOff (i : Nat) : Nat := if i < 4 then i else i + 1
def rdNums : Nat → List ByteArray → TX → Except Int TX
  | _, [], t => .ok t
  | k, x :: xs, t => if k = 4 then rdNums (k + 1) xs t else
    match rdNum x with
    | .error e => .error e
    | .ok n => rdNums (k + 1) xs (t.upd k n)
theorem TX.upd_cells (t : TX) (k : Nat) (n : Int) (hk : k < 7) (h4 : k ≠ 4) : t.cells.set (numOff k) (.int .i64 n) = (t.upd k n).cells := by
  match k with
  | 0 | 1 | 2 | 3 | 5 | 6 => rfl
  | 4 => exact absurd rfl h4
theorem TX.upd_wf {t : TX} (h : t.wf) (k : Nat) (n : Nat) (hn : n ≤ 9223372036854775807) : (t.upd k n).wf := by
  have h1 : i64ok n := ⟨by omega, by omega⟩
  obtain ⟨a, b, c, d, e, f, g, i, j⟩ := h
  unfold TX.upd
  split <;> exact ⟨by first | exact h1 | exact a, by first | exact h1 | exact b, by first | exact h1 | exact c, by first | exact h1 | exact d, e, by first | exact h1 | exact f, by first | exact h1 | exact g, i, j⟩
theorem TX.upd_same (t : TX) (k : Nat) (n : Int) : (t.upd k n).data = t.data ∧ (t.upd k n).lane = t.lane ∧ (t.upd k n).by_ = t.by_ ∧ (t.upd k n).tag = t.tag := by
  unfold TX.upd
  split <;> exact ⟨rfl, rfl, rfl, rfl⟩
/-- with its By read -/
def setBy (t : TX) (l : List UInt8) : TX := { t with by_ := l }
/-- checked at the end -/
def rdEnd (t : TX) : Except Int TX := if t.chk = 0 then .ok t else .error t.chk
def rdBody (b : List ByteArray) (t : TX) (by_ : List UInt8) : Except Int TX :=
  match rdNums 0 b t with
  | .error e => .error e
  | .ok t => rdEnd (if t.lane = true then setBy t by_ else t)
/-- the transaction ahead of its numbers -/
def TX.start (d : ByteArray) (lane : Bool) (tag : List UInt8) : TX := ⟨0, 0, 0, 0, d, lane, 0, 0, z32, tag⟩
/-- the list of a transaction's text read on -/
def rdParts (x y : ByteArray) (z : Option ByteArray) : Except Int TX :=
  match rdAll x with
  | .error e => .error e
  | .ok b => if b.length ≠ (if z.isSome = true then 7 else 5) then .error 6
    else rdBody b (TX.start (b.getD 4 ByteArray.empty) z.isSome y.data.toList) ((z.map fun v => v.data.toList).getD z32)
def rdTx (s : ByteArray) : Except Int TX :=
  match rdAll s with
  | .error e => .error e
  | .ok [x, y] => if y.size = 32 then rdParts x y none else .error 6
  | .ok [x, y, z] => if y.size = 32 ∧ z.size = 32 then rdParts x y (some z) else .error 6
  | .ok _ => .error 6
def txOf (r : Except Int TX) : TX := match r with | .ok t => t | .error _ => TX.zero
def errOf (r : Except Int TX) : Int := match r with | .ok _ => 0 | .error e => e
/-- behind its first k numbers -/
def rdRest (k : Nat) (b : List ByteArray) (t : TX) (h : List UInt8) : Except Int TX :=
  match rdNums k (b.drop k) t with
  | .error e => .error e
  | .ok t => rdEnd (if t.lane = true then setBy t h else t)
theorem rdRest_zero (b : List ByteArray) (t : TX) (h : List UInt8) : rdBody b t h = rdRest 0 b t h := rfl
theorem rdRest_end {k : Nat} {b : List ByteArray} {t : TX} {h : List UInt8} (hk : k = b.length) : rdRest k b t h = rdEnd (if t.lane = true then setBy t h else t) := by
  subst hk
  unfold rdRest
  rw [List.drop_length]
  simp [rdNums]
theorem rdRest_skip {b : List ByteArray} {t : TX} {h : List UInt8} (hk : 4 < b.length) : rdRest 4 b t h = rdRest 5 b t h := by
  unfold rdRest
  rw [List.drop_eq_getElem_cons hk, rdNums, if_pos rfl]
theorem rdRest_err {k : Nat} {b : List ByteArray} {t : TX} {h : List UInt8} (hk : k < b.length) (h4 : k ≠ 4) {e : Int} (hx : rdNum (b[k]'hk) = .error e) : rdRest k b t h = .error e := by
  unfold rdRest
  rw [List.drop_eq_getElem_cons hk, rdNums, if_neg h4, hx]
theorem rdRest_ok {k : Nat} {b : List ByteArray} {t : TX} {h : List UInt8} (hk : k < b.length) (h4 : k ≠ 4) {n : Nat} (hx : rdNum (b[k]'hk) = .ok n) : rdRest k b t h = rdRest (k + 1) b (t.upd k n) h := by
  unfold rdRest
  rw [List.drop_eq_getElem_cons hk, rdNums, if_neg h4, hx]
theorem TX.start_wf {d : ByteArray} {l : Bool} {h : List UInt8} (hd : d.size ≤ 65536) (hl : h.length = 32) : (TX.start d l h).wf := ⟨i64_zero, i64_zero, i64_zero, i64_zero, Nat.le_trans hd (by decide), i64_zero, i64_zero, rfl, hl⟩
theorem rdLs_sizes : ∀ {n left : Nat} {l : List UInt8} {ts : List ByteArray} {c : Nat}, rdLs n left l = .ok (ts, c) → ∀ x ∈ ts, x.size ≤ 65536
  | 0, left, l, ts, c, h => by simp [rdLs] at h; obtain ⟨rfl, rfl⟩ := h; simp
  | n + 1, left, l, ts, c, h => by
    simp only [rdLs] at h
    split at h
    · simp at h
    · rename_i t d ht
      have h0 := rdT_ok ht
      split at h
      · simp at h
      · split at h
        · simp at h
        · rename_i us d2 hu
          simp only [Except.ok.injEq, Prod.mk.injEq] at h
          obtain ⟨rfl, rfl⟩ := h
          intro x hx
          rcases List.mem_cons.1 hx with rfl | hx
          · rw [bstr_size]; omega
          · exact rdLs_sizes hu x hx
theorem rdAll_sizes {s : ByteArray} {ts : List ByteArray} (h : rdAll s = .ok ts) : ∀ x ∈ ts, x.size ≤ 65536 := by
  unfold rdAll at h
  split at h
  · simp at h
  · rename_i us c hc
    split at h
    · simp at h
      subst h
      unfold rdL at hc
      split at hc
      · simp at hc
      · split at hc
        · simp at hc
        · split at hc
          · simp at hc
          · rename_i vs d hv
            simp only [Except.ok.injEq, Prod.mk.injEq] at hc
            obtain ⟨rfl, rfl⟩ := hc
            exact rdLs_sizes hv
    · simp at h
end Go.Proofs.YtckfdmkjeocadaaDoor
