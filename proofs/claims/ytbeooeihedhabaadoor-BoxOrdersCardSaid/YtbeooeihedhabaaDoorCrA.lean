/- crate: sums and runs: what the functions compute, over lists of bytes. runs: what Pack computes, over lists of bytes. runs: what Unpack computes, over lists of bytes. runs: Unpack after Pack gives the text back. window: what Unpack computes, over lists of bytes. -/
import Derived.WalkKit
import Derived.Lib.Hide
import Derived.Test.YtbeooeihedhabaaDoorBase
namespace Go.Proofs.YtbeooeihedhabaaDoor
open Go.RowKit
def crcBit (x : Nat) : Nat := if x % 2 = 0 then x / 2 else (x / 2) ^^^ 3988292384
def itN (f : Nat → Nat) : Nat → Nat → Nat
  | 0, x => x
  | k + 1, x => f (itN f k x)
def crcAll (l : List UInt8) : Nat := l.foldl (fun x b => itN crcBit 8 (x ^^^ b.toNat)) 4294967295
/-- CRC-32 -/
def crc (l : List UInt8) : Nat := 4294967295 - crcAll l
/-- .. bit by bit -/
def rBit (b k y : Nat) : Nat := if (b / 2 ^ k % 2 + y % 2) % 2 = 1 then (y / 2) ^^^ 3988292384 else y / 2
def rIt (b : Nat) : Nat → Nat → Nat
  | 0, x => x
  | k + 1, x => rBit b k (rIt b k x)
theorem xor_mod_two (a b : Nat) : (a ^^^ b) % 2 = (a % 2 + b % 2) % 2 := by
  have h : (a ^^^ b) % 2 ^ 1 = (a % 2 ^ 1) ^^^ (b % 2 ^ 1) := Nat.xor_mod_two_pow
  rw [Nat.pow_one] at h
  rw [h]
  rcases Nat.mod_two_eq_zero_or_one a with h1 | h1 <;> rcases Nat.mod_two_eq_zero_or_one b with h2 | h2 <;> rw [h1, h2] <;> rfl
theorem rIt_it (b x : Nat) : ∀ k, itN crcBit k (x ^^^ b) = rIt b k x ^^^ (b / 2 ^ k)
  | 0 => by simp [itN, rIt]
  | k + 1 => by
    have ih := rIt_it b x k
    show crcBit (itN crcBit k (x ^^^ b)) = _
    rw [ih]
    show _ = rBit b k (rIt b k x) ^^^ (b / 2 ^ (k + 1))
    unfold rBit
    generalize rIt b k x = y
    have hd : b / 2 ^ (k + 1) = b / 2 ^ k / 2 := by rw [Nat.pow_succ, Nat.div_div_eq_div_mul]
    rw [hd]
    generalize b / 2 ^ k = z
    unfold crcBit
    have h1 := xor_mod_two y z
    have h2 : (y ^^^ z) / 2 = y / 2 ^^^ z / 2 := Nat.xor_div_two
    rw [h2]
    by_cases h : (z % 2 + y % 2) % 2 = 1
    · rw [if_neg (by omega), if_pos h, Nat.xor_assoc, Nat.xor_comm (z / 2), ← Nat.xor_assoc]
    · rw [if_pos (by omega), if_neg h]
theorem rIt_byte (b x : Nat) (hb : b < 256) : itN crcBit 8 (x ^^^ b) = rIt b 8 x := by
  rw [rIt_it b x 8, Nat.div_eq_of_lt hb, Nat.xor_zero]
theorem xor_lt32 {a b : Nat} (ha : a < 4294967296) (hb : b < 4294967296) : a ^^^ b < 4294967296 := Nat.xor_lt_two_pow (n := 32) ha hb
theorem crcBit_lt {x : Nat} (h : x < 4294967296) : crcBit x < 4294967296 := by
  unfold crcBit
  split
  · omega
  · exact xor_lt32 (by omega) (by decide)
theorem itN_lt : ∀ (k : Nat) {x : Nat}, x < 4294967296 → itN crcBit k x < 4294967296
  | 0, _, h => h
  | k + 1, _, h => crcBit_lt (itN_lt k h)
theorem rBit_lt {b k y : Nat} (h : y < 4294967296) : rBit b k y < 4294967296 := by
  unfold rBit
  split
  · exact xor_lt32 (by omega) (by decide)
  · omega
theorem rIt_lt (b : Nat) : ∀ (k : Nat) {x : Nat}, x < 4294967296 → rIt b k x < 4294967296
  | 0, _, h => h
  | k + 1, _, h => rBit_lt (rIt_lt b k h)
theorem byte_lt (b : UInt8) : b.toNat < 256 := b.toNat_lt
theorem crc_step {x : Nat} (h : x < 4294967296) (b : UInt8) : itN crcBit 8 (x ^^^ b.toNat) < 4294967296 := itN_lt 8 (xor_lt32 h (Nat.lt_trans (byte_lt b) (by decide)))
theorem crcAll_take (l : List UInt8) (i : Nat) (h : i < l.length) : crcAll (l.take (i + 1)) = itN crcBit 8 (crcAll (l.take i) ^^^ (l[i]'h).toNat) := by
  unfold crcAll
  rw [List.take_succ_eq_append_getElem h, List.foldl_append]
  rfl
theorem crcAll_lt (l : List UInt8) : crcAll l < 4294967296 := by
  unfold crcAll
  have : ∀ (l : List UInt8) (x : Nat), x < 4294967296 → l.foldl (fun x b => itN crcBit 8 (x ^^^ b.toNat)) x < 4294967296 := by
    intro l
    induction l with
    | nil => exact fun x h => h
    | cons a l ih => exact fun x h => ih _ (crc_step h a)
  exact this l _ (by decide)
open Go.RowKit
/-- do at least three equal bytes stand ahead? -/
def three : List UInt8 → Bool
  | a :: b :: c :: _ => a == b && a == c
  | _ => false
/-- how many equal bytes stand ahead, at most k -/
def runN (c : UInt8) : Nat → List UInt8 → Nat
  | 0, _ => 0
  | _, [] => 0
  | k + 1, x :: l => if x = c then runN c k l + 1 else 0
/-- how many bytes go as they are, at most k -/
def litN : Nat → List UInt8 → Nat
  | 0, _ => 0
  | _, [] => 0
  | k + 1, x :: l => if three (x :: l) = true then 0 else litN k l + 1
def rpack : Nat → List UInt8 → List UInt8
  | 0, _ => []
  | _, [] => []
  | f + 1, c :: l => if three (c :: l) = true then UInt8.ofNat (125 + runN c 130 (c :: l)) :: c :: rpack f ((c :: l).drop (runN c 130 (c :: l)))
      else UInt8.ofNat (litN 128 (c :: l) - 1) :: ((c :: l).take (litN 128 (c :: l)) ++ rpack f ((c :: l).drop (litN 128 (c :: l))))
/-- runs.Pack -/
def rpk (l : List UInt8) : List UInt8 := rpack l.length l
theorem runN_le (c : UInt8) : ∀ (k : Nat) (l : List UInt8), runN c k l ≤ k ∧ runN c k l ≤ l.length
  | 0, l => by simp [runN]
  | k + 1, [] => by simp [runN]
  | k + 1, x :: l => by
    have := runN_le c k l
    simp only [runN, List.length_cons]
    split <;> omega
theorem litN_le : ∀ (k : Nat) (l : List UInt8), litN k l ≤ k ∧ litN k l ≤ l.length
  | 0, l => by simp [litN]
  | k + 1, [] => by simp [litN]
  | k + 1, x :: l => by
    have := litN_le k l
    simp only [litN, List.length_cons]
    split <;> omega
theorem runN_pos (c : UInt8) (k : Nat) (l : List UInt8) : 0 < runN c (k + 1) (c :: l) := by simp [runN]
theorem litN_pos {k : Nat} {c : UInt8} {l : List UInt8} (h : three (c :: l) = false) : 0 < litN (k + 1) (c :: l) := by simp [litN, h]
theorem rpack_fuel : ∀ (f g : Nat) (l : List UInt8), l.length ≤ f → l.length ≤ g → rpack f l = rpack g l
  | f, g, [], _, _ => by cases f <;> cases g <;> rfl
  | 0, _, c :: l, h, _ => by simp at h
  | _, 0, c :: l, _, h => by simp at h
  | f + 1, g + 1, c :: l, hf, hg => by
    simp only [List.length_cons] at hf hg
    unfold rpack
    by_cases h3 : three (c :: l) = true
    · rw [if_pos h3, if_pos h3]
      have h1 : 0 < runN c 130 (c :: l) := runN_pos c 129 l
      rw [rpack_fuel f g ((c :: l).drop (runN c 130 (c :: l))) (by rw [List.length_drop, List.length_cons]; omega) (by rw [List.length_drop, List.length_cons]; omega)]
    · rw [if_neg h3, if_neg h3]
      have h1 : 0 < litN 128 (c :: l) := litN_pos (k := 127) (show three (c :: l) = false by simpa using h3)
      rw [rpack_fuel f g ((c :: l).drop (litN 128 (c :: l))) (by rw [List.length_drop, List.length_cons]; omega) (by rw [List.length_drop, List.length_cons]; omega)]
theorem rpk_nil : rpk [] = [] := rfl
theorem rpk_run {c : UInt8} {l : List UInt8} (h : three (c :: l) = true) : rpk (c :: l) = UInt8.ofNat (125 + runN c 130 (c :: l)) :: c :: rpk ((c :: l).drop (runN c 130 (c :: l))) := by
  have h1 : 0 < runN c 130 (c :: l) := runN_pos c 129 l
  show rpack (l.length + 1) (c :: l) = _
  rw [rpack, if_pos h, rpk, rpack_fuel l.length _ _ (by rw [List.length_drop, List.length_cons]; omega) (Nat.le_refl _)]
theorem rpk_lit {c : UInt8} {l : List UInt8} (h : three (c :: l) = false) : rpk (c :: l) = UInt8.ofNat (litN 128 (c :: l) - 1) :: ((c :: l).take (litN 128 (c :: l)) ++ rpk ((c :: l).drop (litN 128 (c :: l)))) := by
  have h1 : 0 < litN 128 (c :: l) := litN_pos (k := 127) h
  show rpack (l.length + 1) (c :: l) = _
  rw [rpack, if_neg (by rw [h]; decide), rpk, rpack_fuel l.length _ _ (by rw [List.length_drop, List.length_cons]; omega) (Nat.le_refl _)]
/-- how many bytes go as they are, told by the places -/
theorem litN_is : ∀ (k m : Nat) (l : List UInt8), m ≤ k → m ≤ l.length → (∀ j, j < m → three (l.drop j) = false) → (m = k ∨ m = l.length ∨ three (l.drop m) = true) → litN k l = m
  | 0, m, l, hk, _, _, _ => by simp [litN]; omega
  | k + 1, m, [], _, hl, _, _ => by simp [litN] at hl ⊢; omega
  | k + 1, 0, x :: l, _, _, _, he => by
    rcases he with h | h | h
    · omega
    · simp at h
    · simp only [List.drop_zero] at h
      simp [litN, h]
  | k + 1, m + 1, x :: l, hk, hl, hj, he => by
    have h0 : three (x :: l) = false := hj 0 (by omega)
    have ih := litN_is k m l (by omega) (by simpa using hl) (fun j hjm => hj (j + 1) (by omega)) (by
      rcases he with h | h | h
      · exact .inl (by omega)
      · exact .inr (.inl (by simpa using h))
      · exact .inr (.inr h))
    simp [litN, h0, ih]
/-- a stretch that ends -/
theorem rpk_stretch {s : List UInt8} {f a : Nat} (hfa : f < a) (hal : a ≤ s.length) (h128 : a - f ≤ 128) (hno : ∀ j, f ≤ j → j < a → three (s.drop j) = false) (he : a - f = 128 ∨ a = s.length ∨ three (s.drop a) = true) :
    rpk (s.drop f) = UInt8.ofNat (a - f - 1) :: ((s.drop f).take (a - f) ++ rpk (s.drop a)) := by
  have hl : litN 128 (s.drop f) = a - f := by
    refine litN_is 128 (a - f) (s.drop f) h128 (by rw [List.length_drop]; omega) (fun j hj => ?_) ?_
    · rw [List.drop_drop]
      exact hno _ (by omega) (by omega)
    · rcases he with h | h | h
      · exact .inl h
      · exact .inr (.inl (by rw [List.length_drop]; omega))
      · exact .inr (.inr (by rw [List.drop_drop, show f + (a - f) = a by omega]; exact h))
  have h3 := hno f (Nat.le_refl _) hfa
  cases hd : s.drop f with
  | nil =>
    have := congrArg List.length hd
    rw [List.length_drop, List.length_nil] at this
    omega
  | cons c l =>
    rw [hd] at h3 hl
    rw [rpk_lit h3, hl]
    have h4 : (c :: l).drop (a - f) = s.drop a := by rw [← hd, List.drop_drop, show f + (a - f) = a by omega]
    rw [h4]
theorem three_at {s : List UInt8} {a : Nat} (h : a + 2 < s.length) : three (s.drop a) = (s[a]'(by omega) == s[a + 1]'(by omega) && s[a]'(by omega) == s[a + 2]'h) := by
  rw [List.drop_eq_getElem_cons (show a < s.length by omega), List.drop_eq_getElem_cons (show a + 1 < s.length by omega), List.drop_eq_getElem_cons (show a + 1 + 1 < s.length by omega)]
  rfl
theorem three_end {s : List UInt8} {a : Nat} (h : s.length ≤ a + 2) : three (s.drop a) = false := by
  have hl : (s.drop a).length ≤ 2 := by rw [List.length_drop]; omega
  match s.drop a, hl with
  | [], _ => rfl
  | [_], _ => rfl
  | [_, _], _ => rfl
/-- how many equal bytes stand ahead, told by the places -/
theorem runN_is (c : UInt8) : ∀ (k m : Nat) (l : List UInt8), m ≤ k → m ≤ l.length → (∀ j (h : j < l.length), j < m → l[j]'h = c) → (m = k ∨ m = l.length ∨ ∃ h : m < l.length, l[m]'h ≠ c) → runN c k l = m
  | 0, m, l, hk, _, _, _ => by simp [runN]; omega
  | k + 1, m, [], _, hl, _, _ => by simp [runN] at hl ⊢; omega
  | k + 1, 0, x :: l, _, _, _, he => by
    rcases he with h | h | ⟨h, h2⟩
    · omega
    · simp at h
    · simp only [List.getElem_cons_zero] at h2
      simp [runN, h2]
  | k + 1, m + 1, x :: l, hk, hl, hj, he => by
    have h0 : x = c := hj 0 (by simp) (by omega)
    have ih := runN_is c k m l (by omega) (by simpa using hl) (fun j h hjm => hj (j + 1) (by simpa using h) (by omega)) (by
      rcases he with h | h | ⟨h, h2⟩
      · exact .inl (by omega)
      · exact .inr (.inl (by simpa using h))
      · exact .inr (.inr ⟨by simpa using h, by simpa using h2⟩))
    simp [runN, h0, ih]
open Go.RowKit
def unrun : Nat → List UInt8 → List UInt8 → Nat → Except Int (List UInt8)
  | 0, _, o, _ => .ok o
  | _, [], o, _ => .ok o
  | f + 1, c :: r, o, m =>
    if c.toNat < 128 then
      if r.length < c.toNat + 1 then .error 5 else if m < o.length + (c.toNat + 1) then .error 3 else unrun f (r.drop (c.toNat + 1)) (o ++ r.take (c.toNat + 1)) m
    else match r with
      | [] => .error 5
      | x :: r' => if m < o.length + (c.toNat - 125) then .error 3 else unrun f r' (o ++ List.replicate (c.toNat - 125) x) m
theorem unrun_fuel : ∀ (f g : Nat) (l o : List UInt8) (m : Nat), l.length ≤ f → l.length ≤ g → unrun f l o m = unrun g l o m
  | f, g, [], o, m, _, _ => by cases f <;> cases g <;> rfl
  | 0, _, c :: l, _, _, h, _ => by simp at h
  | _, 0, c :: l, _, _, _, h => by simp at h
  | f + 1, g + 1, c :: l, o, m, hf, hg => by
    simp only [List.length_cons] at hf hg
    unfold unrun
    by_cases h : c.toNat < 128
    · rw [if_pos h, if_pos h, unrun_fuel f g (l.drop (c.toNat + 1)) _ m (by rw [List.length_drop]; omega) (by rw [List.length_drop]; omega)]
    · rw [if_neg h, if_neg h]
      cases l with
      | nil => rfl
      | cons x r => 
        simp only [List.length_cons] at hf hg
        dsimp only
        rw [unrun_fuel f g r _ m (by omega) (by omega)]
/-- what runs.Unpack makes of what is left, behind so many bytes -/
def urun (l o : List UInt8) (m : Nat) : Except Int (List UInt8) := unrun l.length l o m
theorem urun_nil (o : List UInt8) (m : Nat) : urun [] o m = .ok o := rfl
theorem urun_lit {c : UInt8} {r o : List UInt8} {m : Nat} (h : c.toNat < 128) : urun (c :: r) o m = if r.length < c.toNat + 1 then .error 5 else if m < o.length + (c.toNat + 1) then .error 3 else urun (r.drop (c.toNat + 1)) (o ++ r.take (c.toNat + 1)) m := by
  show unrun (r.length + 1) (c :: r) o m = _
  unfold unrun
  rw [if_pos h, urun, unrun_fuel r.length _ (r.drop (c.toNat + 1)) _ m (by rw [List.length_drop]; omega) (Nat.le_refl _)]
theorem urun_end {c : UInt8} {o : List UInt8} {m : Nat} (h : ¬ c.toNat < 128) : urun [c] o m = .error 5 := by
  show unrun 1 [c] o m = _
  unfold unrun
  rw [if_neg h]
theorem urun_run {c x : UInt8} {r o : List UInt8} {m : Nat} (h : ¬ c.toNat < 128) : urun (c :: x :: r) o m = if m < o.length + (c.toNat - 125) then .error 3 else urun r (o ++ List.replicate (c.toNat - 125) x) m := by
  show unrun (r.length + 2) (c :: x :: r) o m = _
  unfold unrun
  rw [if_neg h]
  dsimp only
  rw [urun, unrun_fuel (r.length + 1) r.length r _ m (by omega) (Nat.le_refl _)]
/-- what comes back -/
def unV (r : Except Int (List UInt8)) : Value :=
  match r with
  | .ok o => .tuple #[.string (bstr o), .int .i64 0]
  | .error e => .tuple #[.string ByteArray.empty, .int .i64 e]
section
variable {s : ByteArray} {a : Nat} {O : List UInt8} {m : Nat}
theorem cut_at (h : a < s.size) : s.data.toList.drop a = s[a]'h :: s.data.toList.drop (a + 1) := by
  have hl : s.data.toList.length = s.size := rfl
  rw [List.drop_eq_getElem_cons (show a < s.data.toList.length by rw [hl]; exact h)]
  rfl
theorem left_at (a : Nat) : (s.data.toList.drop a).length = s.size - a := by
  have hl : s.data.toList.length = s.size := rfl
  rw [List.length_drop, hl]
theorem st_end : urun (s.data.toList.drop s.size) O m = .ok O := by
  have hl : s.data.toList.length = s.size := rfl
  rw [← hl, List.drop_length, urun_nil]
theorem st_short (h : a < s.size) (hc : (s[a]'h).toNat < 128) (hs : s.size - (a + 1) < (s[a]'h).toNat + 1) : urun (s.data.toList.drop a) O m = .error 5 := by
  rw [cut_at h, urun_lit hc, if_pos (by rw [left_at]; exact hs)]
theorem st_big (h : a < s.size) (hc : (s[a]'h).toNat < 128) (hs : ¬ s.size - (a + 1) < (s[a]'h).toNat + 1) (hb : m < O.length + ((s[a]'h).toNat + 1)) : urun (s.data.toList.drop a) O m = .error 3 := by
  rw [cut_at h, urun_lit hc, if_neg (by rw [left_at]; exact hs), if_pos hb]
theorem st_lit (h : a < s.size) (hc : (s[a]'h).toNat < 128) (hs : ¬ s.size - (a + 1) < (s[a]'h).toNat + 1) (hb : ¬ m < O.length + ((s[a]'h).toNat + 1)) : urun (s.data.toList.drop a) O m = urun (s.data.toList.drop (a + 1 + ((s[a]'h).toNat + 1))) (O ++ (s.data.toList.drop (a + 1)).take ((s[a]'h).toNat + 1)) m := by
  rw [cut_at h, urun_lit hc, if_neg (by rw [left_at]; exact hs), if_neg hb, List.drop_drop]
theorem st_short2 (h : a < s.size) (hc : ¬ (s[a]'h).toNat < 128) (hs : s.size ≤ a + 1) : urun (s.data.toList.drop a) O m = .error 5 := by
  have hl : s.data.toList.length = s.size := rfl
  rw [cut_at h, List.drop_of_length_le (by rw [hl]; exact hs), urun_end hc]
theorem st_big2 (h : a < s.size) (hc : ¬ (s[a]'h).toNat < 128) (hs : a + 1 < s.size) (hb : m < O.length + ((s[a]'h).toNat - 125)) : urun (s.data.toList.drop a) O m = .error 3 := by
  rw [cut_at h, cut_at hs, urun_run hc, if_pos hb]
theorem st_run (h : a < s.size) (hc : ¬ (s[a]'h).toNat < 128) (hs : a + 1 < s.size) (hb : ¬ m < O.length + ((s[a]'h).toNat - 125)) : urun (s.data.toList.drop a) O m = urun (s.data.toList.drop (a + 2)) (O ++ List.replicate ((s[a]'h).toNat - 125) (s[a + 1]'hs)) m := by
  rw [cut_at h, cut_at hs, urun_run hc, if_neg hb]
end
open Go.RowKit
theorem runN_take (c : UInt8) : ∀ (k : Nat) (l : List UInt8), l.take (runN c k l) = List.replicate (runN c k l) c
  | 0, l => by simp [runN]
  | k + 1, [] => by simp [runN]
  | k + 1, x :: l => by
    simp only [runN]
    split
    · rename_i h
      rw [List.take_succ_cons, runN_take c k l, h, List.replicate_succ]
    · simp
theorem three_run {c : UInt8} {l : List UInt8} (h : three (c :: l) = true) : 3 ≤ runN c 130 (c :: l) := by
  match l with
  | [] => simp [three] at h
  | [x] => simp [three] at h
  | x :: y :: r =>
    simp [three] at h
    obtain ⟨rfl, rfl⟩ := h
    simp only [runN, if_true]
    omega
theorem urun_rpack : ∀ (f : Nat) (l o : List UInt8) (m : Nat), l.length ≤ f → o.length + l.length ≤ m → urun (rpack f l) o m = .ok (o ++ l)
  | 0, [], o, m, _, _ => by simp [rpack, urun_nil]
  | f + 1, [], o, m, _, _ => by simp [rpack, urun_nil]
  | 0, c :: l, o, m, h, _ => by simp at h
  | f + 1, c :: l, o, m, hf, hm => by
    unfold rpack
    by_cases h3 : three (c :: l) = true
    · have hN := three_run h3
      have hle := runN_le c 130 (c :: l)
      have ht := runN_take c 130 (c :: l)
      rw [if_pos h3]
      obtain ⟨N, hNN⟩ : ∃ N, N = runN c 130 (c :: l) := ⟨_, rfl⟩
      rw [← hNN] at hN hle ht ⊢
      have hc : (UInt8.ofNat (125 + N)).toNat = 125 + N := UInt8.toNat_ofNat_of_lt' (show 125 + N < 256 by omega)
      rw [urun_run (by rw [hc]; omega), hc, show 125 + N - 125 = N by omega, if_neg (by omega), urun_rpack f _ _ m (by rw [List.length_drop]; omega) (by rw [List.length_drop, List.length_append, List.length_replicate]; omega)]
      rw [← ht, List.append_assoc, List.take_append_drop]
    · have h3f : three (c :: l) = false := by simpa using h3
      have hp := litN_pos (k := 127) h3f
      have hle := litN_le 128 (c :: l)
      rw [if_neg h3]
      obtain ⟨N, hNN⟩ : ∃ N, N = litN 128 (c :: l) := ⟨_, rfl⟩
      rw [← hNN] at hle hp ⊢
      have hc : (UInt8.ofNat (N - 1)).toNat = N - 1 := UInt8.toNat_ofNat_of_lt' (show N - 1 < 256 by omega)
      have hx : ((c :: l).take N).length = N := by rw [List.length_take]; omega
      obtain ⟨X, hX⟩ : ∃ X, X = (c :: l).take N := ⟨_, rfl⟩
      rw [← hX] at hx ⊢
      rw [urun_lit (by rw [hc]; omega), hc, show N - 1 + 1 = N by omega, if_neg (by rw [List.length_append, hx]; omega), if_neg (by omega)]
      rw [List.drop_left' hx, List.take_left' hx, urun_rpack f _ _ m (by rw [List.length_drop]; omega) (by rw [List.length_drop, List.length_append, hx]; omega)]
      rw [hX, List.append_assoc, List.take_append_drop]
/-- runs.Unpack after runs.Pack -/
theorem urun_rpk {l : List UInt8} {m : Nat} (hm : l.length ≤ m) : urun (rpk l) [] m = .ok l := by
  have := urun_rpack l.length l [] m (Nat.le_refl _) (by simpa using hm)
  rw [List.nil_append] at this
  exact this
open Go.RowKit
/-- bytes of what is known, so far back, laid again one after the other -/
def cpy : Nat → Nat → List UInt8 → List UInt8
  | 0, _, k => k
  | n + 1, d, k => cpy n d (k ++ [k.getD (k.length - d - 1) 0])
theorem cpy_length : ∀ (n d : Nat) (k : List UInt8), (cpy n d k).length = k.length + n
  | 0, _, k => by simp [cpy]
  | n + 1, d, k => by
    rw [cpy, cpy_length]
    simp
    omega
/-- what is made of what is left, behind what is known (68 bytes of it ahead of all) -/
def unwin : Nat → List UInt8 → List UInt8 → Nat → Except Int (List UInt8)
  | 0, _, k, _ => .ok k
  | _, [], k, _ => .ok k
  | f + 1, c :: r, k, m =>
    if c.toNat = 255 then .error 6
    else if c.toNat < 128 then
      if r.length < c.toNat + 1 then .error 5 else if m < k.length - 68 + (c.toNat + 1) then .error 3 else unwin f (r.drop (c.toNat + 1)) (k ++ r.take (c.toNat + 1)) m
    else match r with
      | x :: y :: r' =>
        if 32768 ≤ x.toNat * 256 + y.toNat ∨ k.length < x.toNat * 256 + y.toNat + 1 then .error 6
        else if m < k.length - 68 + (c.toNat - 124) then .error 3
        else unwin f r' (cpy (c.toNat - 124) (x.toNat * 256 + y.toNat) k) m
      | _ => .error 5
theorem unwin_fuel : ∀ (f g : Nat) (l k : List UInt8) (m : Nat), l.length ≤ f → l.length ≤ g → unwin f l k m = unwin g l k m
  | f, g, [], k, m, _, _ => by cases f <;> cases g <;> rfl
  | 0, _, c :: l, k, m, h, _ => by simp at h
  | _, 0, c :: l, k, m, _, h => by simp at h
  | f + 1, g + 1, c :: l, k, m, hf, hg => by
    simp only [List.length_cons] at hf hg
    unfold unwin
    by_cases h5 : c.toNat = 255
    · rw [if_pos h5, if_pos h5]
    · rw [if_neg h5, if_neg h5]
      by_cases h : c.toNat < 128
      · rw [if_pos h, if_pos h, unwin_fuel f g (l.drop (c.toNat + 1)) _ m (by rw [List.length_drop]; omega) (by rw [List.length_drop]; omega)]
      · rw [if_neg h, if_neg h]
        match l with
        | [] => rfl
        | [x] => rfl
        | x :: y :: r =>
          simp only [List.length_cons] at hf hg
          dsimp only
          rw [unwin_fuel f g r _ m (by omega) (by omega)]
def uwin (l k : List UInt8) (m : Nat) : Except Int (List UInt8) := unwin l.length l k m
theorem uwin_nil (k : List UInt8) (m : Nat) : uwin [] k m = .ok k := rfl
theorem uwin_255 {c : UInt8} {r k : List UInt8} {m : Nat} (h : c.toNat = 255) : uwin (c :: r) k m = .error 6 := by
  show unwin (r.length + 1) (c :: r) k m = _
  unfold unwin
  rw [if_pos h]
theorem uwin_lit {c : UInt8} {r k : List UInt8} {m : Nat} (h : c.toNat < 128) : uwin (c :: r) k m = if r.length < c.toNat + 1 then .error 5 else if m < k.length - 68 + (c.toNat + 1) then .error 3 else uwin (r.drop (c.toNat + 1)) (k ++ r.take (c.toNat + 1)) m := by
  show unwin (r.length + 1) (c :: r) k m = _
  unfold unwin
  rw [if_neg (by omega), if_pos h, uwin, unwin_fuel r.length _ (r.drop (c.toNat + 1)) _ m (by rw [List.length_drop]; omega) (Nat.le_refl _)]
theorem uwin_short {c : UInt8} {r k : List UInt8} {m : Nat} (h : ¬ c.toNat < 128) (h5 : c.toNat ≠ 255) (hr : r.length < 2) : uwin (c :: r) k m = .error 5 := by
  show unwin (r.length + 1) (c :: r) k m = _
  unfold unwin
  rw [if_neg h5, if_neg h]
  match r with
  | [] => rfl
  | [x] => rfl
  | x :: y :: r => simp only [List.length_cons] at hr; omega
theorem uwin_match {c x y : UInt8} {r k : List UInt8} {m : Nat} (h : ¬ c.toNat < 128) (h5 : c.toNat ≠ 255) : uwin (c :: x :: y :: r) k m = if 32768 ≤ x.toNat * 256 + y.toNat ∨ k.length < x.toNat * 256 + y.toNat + 1 then .error 6 else if m < k.length - 68 + (c.toNat - 124) then .error 3 else uwin r (cpy (c.toNat - 124) (x.toNat * 256 + y.toNat) k) m := by
  show unwin (r.length + 3) (c :: x :: y :: r) k m = _
  unfold unwin
  rw [if_neg h5, if_neg h]
  dsimp only
  rw [uwin, unwin_fuel (r.length + 2) r.length r _ m (by omega) (Nat.le_refl _)]
end Go.Proofs.YtbeooeihedhabaaDoor
