/- Plain facts on reading numbers, texts and lists of bytes: no program in sight. -/
import Derived.Test.YtckfdmkjeocadaaDoorNumPure
namespace Go.Proofs.YtckfdmkjeocadaaDoor
def beN (l : List UInt8) : Nat := l.foldl (fun n b => n * 256 + b.toNat) 0
def rdN : List UInt8 → Except Int (Nat × Nat)
  | [] => .error 5
  | k :: t =>
    if 8 < k.toNat then .error 6
    else if t.length < k.toNat then .error 5
    else if 0 < k.toNat ∧ ((t.getD 0 0).toNat = 0 ∨ k.toNat = 8 ∧ 127 < (t.getD 0 0).toNat) then .error 6
    else .ok (beN (t.take k.toNat), k.toNat + 1)
theorem beN_snoc (l : List UInt8) (b : UInt8) : beN (l ++ [b]) = beN l * 256 + b.toNat := by simp [beN]
theorem beN_acc : ∀ (l : List UInt8) (n : Nat), l.foldl (fun n b => n * 256 + b.toNat) n = n * 256 ^ l.length + beN l
  | [], n => by simp [beN]
  | b :: l, n => by
    have h1 := beN_acc l (n * 256 + b.toNat)
    have h2 := beN_acc l b.toNat
    have h3 : beN (b :: l) = l.foldl (fun n b => n * 256 + b.toNat) b.toNat := by simp [beN]
    rw [List.foldl_cons, h1, h3, h2, List.length_cons, Nat.pow_succ, Nat.add_mul, Nat.mul_assoc, Nat.mul_comm 256]
    omega
theorem beN_cons (b : UInt8) (l : List UInt8) : beN (b :: l) = b.toNat * 256 ^ l.length + beN l := by
  rw [← beN_acc]; simp [beN]
theorem beN_lt : ∀ (l : List UInt8), beN l < 256 ^ l.length
  | [] => by simp [beN]
  | b :: l => by
    have h1 := beN_lt l
    have h2 := b.toNat_lt
    rw [beN_cons, List.length_cons, Nat.pow_succ]
    have h3 : b.toNat * 256 ^ l.length ≤ 255 * 256 ^ l.length := Nat.mul_le_mul_right _ (by omega)
    omega
theorem rdN_err {l : List UInt8} {e : Int} (h : rdN l = .error e) : e = 5 ∨ e = 6 := by
  cases l with
  | nil => simp [rdN] at h; omega
  | cons k t =>
    simp only [rdN] at h
    split at h
    · simp at h; omega
    · split at h
      · simp at h; omega
      · split at h
        · simp at h; omega
        · simp at h
theorem rdN_ok {l : List UInt8} {n c : Nat} (h : rdN l = .ok (n, c)) : 1 ≤ c ∧ c ≤ l.length ∧ c ≤ 9 ∧ n ≤ 9223372036854775807 := by
  cases l with
  | nil => simp [rdN] at h
  | cons k t =>
    simp only [rdN] at h
    split at h
    · simp at h
    · split at h
      · simp at h
      · split at h
        · simp at h
        · rename_i h1 h2 h3
          simp only [Except.ok.injEq, Prod.mk.injEq] at h
          obtain ⟨rfl, rfl⟩ := h
          refine ⟨by omega, by simp; omega, by omega, ?_⟩
          have h4 := beN_lt (t.take k.toNat)
          rw [List.length_take, Nat.min_eq_left (by omega)] at h4
          by_cases h7 : k.toNat ≤ 7
          · have h5 := Nat.pow_le_pow_right (by decide : 0 < 256) h7
            have e : (256 : Nat) ^ 7 = 72057594037927936 := by decide
            omega
          · have e8 : k.toNat = 8 := by omega
            rw [e8] at h3 h4 h2 ⊢
            cases t with
            | nil => simp at h2
            | cons b t =>
              have hb : b.toNat ≤ 127 := by
                rcases Nat.lt_or_ge 127 b.toNat with hb | hb
                · exact absurd ⟨by omega, .inr ⟨rfl, by simpa using hb⟩⟩ h3
                · exact hb
              rw [List.take_succ_cons, beN_cons]
              have h6 := beN_lt (t.take 7)
              simp only [List.length_cons] at h2
              rw [List.length_take, Nat.min_eq_left (by omega)] at h6 ⊢
              have e : (256 : Nat) ^ 7 = 72057594037927936 := by decide
              rw [e] at h6 ⊢
              omega
def rdT (l : List UInt8) : Except Int (List UInt8 × Nat) :=
  match rdN l with
  | .error e => .error e
  | .ok (n, c) => if 65536 < n then .error 3 else if l.length - c < n then .error 5 else .ok ((l.drop c).take n, c + n)
def rdLs : Nat → Nat → List UInt8 → Except Int (List ByteArray × Nat)
  | 0, _, _ => .ok ([], 0)
  | n + 1, left, l =>
    match rdT l with
    | .error e => .error e
    | .ok (t, c) => if left < t.length then .error 3 else
      match rdLs n (left - t.length) (l.drop c) with
      | .error e => .error e
      | .ok (ts, d) => .ok (bstr t :: ts, c + d)
def rdL (l : List UInt8) : Except Int (List ByteArray × Nat) :=
  match rdN l with
  | .error e => .error e
  | .ok (n, c) => if 1024 < n then .error 3 else
    match rdLs n 65536 (l.drop c) with
    | .error e => .error e
    | .ok (ts, d) => .ok (ts, c + d)
theorem rdT_ok {l t : List UInt8} {c : Nat} (h : rdT l = .ok (t, c)) : 1 ≤ c ∧ c ≤ l.length ∧ t.length ≤ 65536 ∧ ∃ n d, rdN l = .ok (n, d) ∧ n ≤ 65536 ∧ n ≤ l.length - d ∧ t = (l.drop d).take n ∧ c = d + n := by
  unfold rdT at h
  split at h
  · simp at h
  · rename_i n d hn
    have h0 := rdN_ok hn
    split at h
    · simp at h
    · split at h
      · simp at h
      · simp only [Except.ok.injEq, Prod.mk.injEq] at h
        obtain ⟨rfl, rfl⟩ := h
        exact ⟨by omega, by omega, by simp; omega, n, d, hn, by omega, by omega, rfl, rfl⟩
theorem rdT_err {l : List UInt8} {e : Int} (h : rdT l = .error e) : e = 3 ∨ e = 5 ∨ e = 6 := by
  unfold rdT at h
  split at h
  · rename_i hn
    simp at h
    subst h
    have := rdN_err hn
    omega
  · split at h
    · simp at h; omega
    · split at h
      · simp at h; omega
      · simp at h
theorem rdLs_ok : ∀ {n left : Nat} {l : List UInt8} {ts : List ByteArray} {c : Nat}, rdLs n left l = .ok (ts, c) → ts.length = n ∧ c ≤ l.length
  | 0, left, l, ts, c, h => by simp [rdLs] at h; obtain ⟨rfl, rfl⟩ := h; simp
  | n + 1, left, l, ts, c, h => by
    simp only [rdLs] at h
    split at h
    · simp at h
    · rename_i t d ht
      have h0 := rdT_ok ht
      split at h
      · simp at h
      · split at h
        · simp at h
        · rename_i us d2 hu
          simp only [Except.ok.injEq, Prod.mk.injEq] at h
          obtain ⟨rfl, rfl⟩ := h
          have ih := rdLs_ok hu
          rw [List.length_drop] at ih
          exact ⟨by simp [ih.1], by omega⟩
theorem rdL_ok {l : List UInt8} {ts : List ByteArray} {c : Nat} (h : rdL l = .ok (ts, c)) : ts.length ≤ 1024 ∧ c ≤ l.length ∧ 1 ≤ c := by
  unfold rdL at h
  split at h
  · simp at h
  · rename_i n d hn
    have h0 := rdN_ok hn
    split at h
    · simp at h
    · split at h
      · simp at h
      · rename_i us d2 hu
        simp only [Except.ok.injEq, Prod.mk.injEq] at h
        obtain ⟨rfl, rfl⟩ := h
        have h1 := rdLs_ok hu
        rw [List.length_drop] at h1
        omega
end Go.Proofs.YtckfdmkjeocadaaDoor
