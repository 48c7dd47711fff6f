/- What a list that is all of a text tells, a number that is all of one: plain Lean. Numbers that may be; numbers as texts: plain Lean. -/
import Derived.Test.YtbeooeihedhabaaDoorNums
namespace Go.Proofs.YtbeooeihedhabaaDoor
open Go.RowKit
/-- a list that is all of a text -/
def rdAll (s : ByteArray) : Except Int (List ByteArray) :=
  match rdL s.data.toList with
  | .error e => .error e
  | .ok (ts, c) => if c = s.size then .ok ts else .error 6
def tlPost (w : World) (r : Except Int (List ByteArray)) (e : Ending) (w' : World) : Prop :=
  Below w.heap.size w w' ∧ match r with
  | .error x => ∃ v, e = .returned (.tuple #[v, .int .i64 x])
  | .ok ts => ∃ v, e = .returned (.tuple #[v, .int .i64 0]) ∧ w'.ownsRow w.heap.size 9 1 v ts.length (strs ts)
theorem rdL_err {l : List UInt8} {e : Int} (h : rdL l = .error e) : e = 3 ∨ e = 5 ∨ e = 6 := by
  have h1 : ∀ (n left : Nat) (l : List UInt8) (e : Int), rdLs n left l = .error e → e = 3 ∨ e = 5 ∨ e = 6 := by
    intro n
    induction n with
    | zero => intro left l e h; simp [rdLs] at h
    | succ n ih =>
      intro left l e h
      simp only [rdLs] at h
      split at h
      · rename_i ht; simp at h; subst h; exact rdT_err ht
      · split at h
        · simp at h; omega
        · split at h
          · rename_i ht; simp at h; subst h; exact ih _ _ _ ht
          · simp at h
  unfold rdL at h
  split at h
  · rename_i hn; simp at h; subst h; have := rdN_err hn; omega
  · split at h
    · simp at h; omega
    · split at h
      · rename_i ht; simp at h; subst h; exact h1 _ _ _ _ ht
      · simp at h
theorem rdAll_err {s : ByteArray} {e : Int} (h : rdAll s = .error e) : (e != 0) = true := by
  unfold rdAll at h
  split at h
  · rename_i hn; simp at h; subst h; exact ne0_of3 (rdL_err hn)
  · split at h
    · simp at h
    · simp at h; subst h; rfl
/-- a number that is all of a text -/
def rdNum (s : ByteArray) : Except Int Nat :=
  match rdN s.data.toList with
  | .error e => .error e
  | .ok (n, c) => if c = s.size then .ok n else .error 6
theorem rdLs_sizes : ∀ {n left : Nat} {l : List UInt8} {ts : List ByteArray} {c : Nat}, rdLs n left l = .ok (ts, c) → ∀ x ∈ ts, x.size ≤ 65536
  | 0, left, l, ts, c, h => by simp [rdLs] at h; obtain ⟨rfl, rfl⟩ := h; simp
  | n + 1, left, l, ts, c, h => by
    simp only [rdLs] at h
    split at h
    · simp at h
    · rename_i t d ht
      have h0 := rdT_ok ht
      split at h
      · simp at h
      · split at h
        · simp at h
        · rename_i us d2 hu
          simp only [Except.ok.injEq, Prod.mk.injEq] at h
          obtain ⟨rfl, rfl⟩ := h
          intro x hx
          rcases List.mem_cons.1 hx with rfl | hx
          · rw [bstr_size]; omega
          · exact rdLs_sizes hu x hx
theorem rdAll_sizes {s : ByteArray} {ts : List ByteArray} (h : rdAll s = .ok ts) : ∀ x ∈ ts, x.size ≤ 65536 := by
  unfold rdAll at h
  split at h
  · simp at h
  · rename_i us c hc
    split at h
    · simp at h
      subst h
      unfold rdL at hc
      split at hc
      · simp at hc
      · split at hc
        · simp at hc
        · split at hc
          · simp at hc
          · rename_i vs d hv
            simp only [Except.ok.injEq, Prod.mk.injEq] at hc
            obtain ⟨rfl, rfl⟩ := hc
            exact rdLs_sizes hv
    · simp at h
def numS (n : Nat) : ByteArray := bstr (numEnc n)
open Go.RowKit
def numOk (n : Int) : Bool := decide (0 ≤ n ∧ n ≤ 1099511627776)
def ints (l : List Nat) : List Value := l.map fun (y : Nat) => Value.int .i64 (y : Int)
def numSs (l : List Nat) : List ByteArray := l.map numS
theorem ints_at {w : World} {bn : Nat} {l : List Nat} {t : TypeId} {fr : Nat × Nat} (h : w.heap[bn]? = some (.cells (ints l).toArray t fr)) {k : Nat} (hk : k < l.length) : w.cell? ⟨bn, k, none⟩ = some (.int .i64 (l[k]'hk)) := by
  rw [cell_of_row w bn k _ _ _ h, List.getElem?_toArray]
  simp [ints, List.getElem?_eq_getElem hk]
theorem numSs_snoc (l : List Nat) (k : Nat) (h : k < l.length) : numSs (l.take (k + 1)) = numSs (l.take k) ++ [numS (l[k]'h)] := by
  unfold numSs
  rw [List.take_succ_eq_append_getElem h, List.map_append]
  rfl
theorem numS_size {n : Nat} (h : n ≤ 1099511627776) : (numS n).size ≤ 7 := by
  rw [numS, bstr_size, numEnc_length]
  have := numB_length_le 6 n (by omega)
  omega
theorem numSs_tot : ∀ (l : List Nat), (∀ x ∈ l, x ≤ 1099511627776) → tot (numSs l) ≤ 7 * l.length
  | [], _ => by simp [tot, numSs]
  | x :: l, h => by
    have h1 := numS_size (h x (by simp))
    have h2 := numSs_tot l fun y hy => h y (by simp [hy])
    simp only [tot, numSs, List.map_cons, List.sum_cons, List.length_cons] at h2 ⊢
    omega
theorem tot_append (a b : List ByteArray) : tot (a ++ b) = tot a + tot b := by simp [tot]
theorem encList_length {ls : List ByteArray} (h : ls.length ≤ 1024) (ht : tot ls ≤ 65536) : (encList ls).length ≤ tot ls + 4 * ls.length + 4 := by
  have h1 := encd_tot ls fun s hs => Nat.le_trans (size_le_tot hs) ht
  have h2 := num_small (n := ls.length) (by omega)
  rw [← flat_encd, flat_length]
  simp only [tot, List.map_cons, List.sum_cons, bstr_size] at h1 ⊢
  omega
theorem mem_get {p : Nat → Prop} {l : List Nat} (h : ∀ x ∈ l, p x) : ∀ k (hk : k < l.length), p (l[k]'hk) := fun _k hk => h _ (List.getElem_mem hk)
end Go.Proofs.YtbeooeihedhabaaDoor
