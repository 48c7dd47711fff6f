/- window: what Pack computes, over the bytes. window: a match copied tells the text. window: Unpack after Pack gives the text back. crate: what Pack and Open compute, over lists of bytes. crate: of bytes that are packed as they are, one byte changed behind the first is told by an error. -/
import Derived.Test.YtbeooeihedhabaaDoorCrB
import Derived.Test.YtbeooeihedhabaaDoorCrA
import Derived.Test.YtbeooeihedhabaaDoorCNumBack
namespace Go.Proofs.YtbeooeihedhabaaDoor
open Go.RowKit
/-- bytes as they are, with their count ahead -/
def litW (s : ByteArray) (f a : Nat) : List UInt8 := if f < a then UInt8.ofNat (a - f - 1) :: (s.data.toList.drop f).take (a - f) else []
/-- a match -/
def mtW (n b : Nat) : List UInt8 := [UInt8.ofNat (n + 124), UInt8.ofNat ((b - 1) / 256), UInt8.ofNat ((b - 1) % 256)]
def wpack (s : ByteArray) : Nat → Nat → Nat → List UInt8
  | 0, a, f => litW s f a
  | k + 1, a, f =>
    if s.size ≤ a then litW s f a
    else if (bst s a).1 < 4 then (if a + 1 - f = 128 then litW s f (a + 1) ++ wpack s k (a + 1) (a + 1) else wpack s k (a + 1) f)
    else litW s f a ++ (mtW (bst s a).1 (bst s a).2 ++ wpack s k (a + (bst s a).1) (a + (bst s a).1))
theorem wpack_fuel (s : ByteArray) : ∀ (k j a f : Nat), s.size - a ≤ k → s.size - a ≤ j → wpack s k a f = wpack s j a f
  | 0, 0, a, f, _, _ => rfl
  | 0, j + 1, a, f, h, _ => by
    unfold wpack
    rw [if_pos (by omega)]
  | k + 1, 0, a, f, _, h => by
    unfold wpack
    rw [if_pos (by omega)]
  | k + 1, j + 1, a, f, h1, h2 => by
    unfold wpack
    by_cases h : s.size ≤ a
    · rw [if_pos h, if_pos h]
    · rw [if_neg h, if_neg h, wpack_fuel s k j (a + 1) (a + 1) (by omega) (by omega), wpack_fuel s k j (a + 1) f (by omega) (by omega)]
      by_cases h4 : (bst s a).1 < 4
      · rw [if_pos h4, if_pos h4]
      · rw [if_neg h4, if_neg h4, wpack_fuel s k j (a + (bst s a).1) _ (by omega) (by omega)]
/-- what Pack makes from a place on, with what is still to be laid as it is from f on -/
def wpF (s : ByteArray) (a f : Nat) : List UInt8 := wpack s (s.size - a) a f
theorem wpF_end {s : ByteArray} {a : Nat} (h : s.size ≤ a) (f : Nat) : wpF s a f = litW s f a := by
  rw [wpF, Nat.sub_eq_zero_of_le h, wpack]
theorem wpF_step {s : ByteArray} {a : Nat} (h : a < s.size) (f : Nat) : wpF s a f = if (bst s a).1 < 4 then (if a + 1 - f = 128 then litW s f (a + 1) ++ wpF s (a + 1) (a + 1) else wpF s (a + 1) f) else litW s f a ++ (mtW (bst s a).1 (bst s a).2 ++ wpF s (a + (bst s a).1) (a + (bst s a).1)) := by
  obtain ⟨k, hk⟩ : ∃ k, s.size - a = k + 1 := ⟨s.size - a - 1, by omega⟩
  rw [wpF, hk, wpack, if_neg (by omega)]
  simp only [wpF]
  rw [wpack_fuel s k (s.size - (a + 1)) (a + 1) (a + 1) (by omega) (by omega), wpack_fuel s k (s.size - (a + 1)) (a + 1) f (by omega) (by omega)]
  by_cases h4 : (bst s a).1 < 4
  · rw [if_pos h4, if_pos h4]
  · rw [if_neg h4, if_neg h4, wpack_fuel s k (s.size - (a + (bst s a).1)) _ _ (by omega) (by omega)]
theorem wpF_lit {s : ByteArray} {a f : Nat} (h : a < s.size) (h4 : (bst s a).1 < 4) (h1 : a + 1 - f ≠ 128) : wpF s a f = wpF s (a + 1) f := by
  rw [wpF_step h, if_pos h4, if_neg h1]
theorem wpF_cut {s : ByteArray} {a f : Nat} (h : a < s.size) (h4 : (bst s a).1 < 4) (h1 : a + 1 - f = 128) : wpF s a f = litW s f (a + 1) ++ wpF s (a + 1) (a + 1) := by
  rw [wpF_step h, if_pos h4, if_pos h1]
theorem wpF_match {s : ByteArray} {a f n b : Nat} (h : a < s.size) (hb : bst s a = (n, b)) (h4 : 4 ≤ n) : wpF s a f = litW s f a ++ (mtW n b ++ wpF s (a + n) (a + n)) := by
  rw [wpF_step h, hb, if_neg (by simp only; omega)]
theorem litW_none (s : ByteArray) (a : Nat) : litW s a a = [] := by rw [litW, if_neg (by omega)]
/-- the reference lays what is left at the end of all in the same round -/
theorem wpF_last {s : ByteArray} {a f : Nat} (h : a < s.size) (h4 : (bst s a).1 < 4) (h1 : a + 1 = s.size) : wpF s a f = litW s f (a + 1) ++ wpF s (a + 1) (a + 1) := by
  rw [wpF_end (s := s) (a := a + 1) (by omega), litW_none, List.append_nil]
  by_cases h8 : a + 1 - f = 128
  · rw [wpF_cut h h4 h8, wpF_end (by omega), litW_none, List.append_nil]
  · rw [wpF_lit h h4 h8, wpF_end (by omega)]
/-- window.Pack -/
def wpk (l : List UInt8) : List UInt8 := wpF (bstr (statL ++ l)) 68 68
theorem litW_length (s : ByteArray) (f a : Nat) : (litW s f a).length ≤ a - f + 1 := by
  unfold litW
  split
  · simp only [List.length_cons, List.length_take]; omega
  · simp
theorem litW_length2 {s : ByteArray} {f a : Nat} (h : f < a) (ha : a ≤ s.size) : (litW s f a).length = a - f + 1 := by
  have hl : s.data.toList.length = s.size := rfl
  rw [litW, if_pos h, List.length_cons, List.length_take, List.length_drop, hl]
  omega
/-- never more than twice as long -/
theorem wpF_length (s : ByteArray) : ∀ (k a f : Nat), s.size - a ≤ k → f ≤ a → a ≤ s.size → (wpF s a f).length ≤ 2 * (s.size - f)
  | k, a, f, hk, hf, ha => by
    by_cases h : s.size ≤ a
    · rw [wpF_end h]
      unfold litW
      split
      · simp only [List.length_cons, List.length_take]; omega
      · simp
    · have hle := bstD_le ha (min a 32768)
      rw [wpF_step (by omega)]
      cases k with
      | zero => omega
      | succ k =>
        have i1 := wpF_length s k (a + 1) (a + 1) (by omega) (by omega) (by omega)
        have i2 := wpF_length s k (a + 1) f (by omega) (by omega) (by omega)
        split
        · split
          · rw [List.length_append]
            have := litW_length s f (a + 1)
            omega
          · omega
        · have hb : (bst s a).1 = (bstD s a (min a 32768)).1 := rfl
          have i3 := wpF_length s k (a + (bst s a).1) (a + (bst s a).1) (by omega) (by omega) (by omega)
          have := litW_length s f a
          rw [List.length_append, List.length_append]
          simp only [mtW, List.length_cons, List.length_nil]
          omega
open Go.RowKit
theorem cpy_match (KL : List UInt8) : ∀ (n a b : Nat), 1 ≤ b → b ≤ a → a + n ≤ KL.length → (∀ j, j < n → KL.getD (a + j) 0 = KL.getD (a - b + j) 0) → cpy n (b - 1) (KL.take a) = KL.take (a + n)
  | 0, a, b, _, _, _, _ => rfl
  | n + 1, a, b, h1, h2, h3, h4 => by
    have hl : (KL.take a).length = a := by rw [List.length_take]; omega
    have h0 := h4 0 (by omega)
    rw [Nat.add_zero, Nat.add_zero] at h0
    have hx : (KL.take a).getD ((KL.take a).length - (b - 1) - 1) 0 = KL.getD a 0 := by
      rw [hl, show a - (b - 1) - 1 = a - b by omega, h0, List.getD_eq_getElem?_getD, List.getD_eq_getElem?_getD, List.getElem?_take_of_lt (by omega)]
    have hs : KL.take a ++ [KL.getD a 0] = KL.take (a + 1) := by
      rw [List.take_add_one, List.getD_eq_getElem?_getD, List.getElem?_eq_getElem (show a < KL.length by omega)]
      rfl
    rw [cpy, hx, hs, cpy_match KL n (a + 1) b h1 (by omega) (by omega) (fun j hj => by
      have := h4 (j + 1) (by omega)
      rw [show a + 1 + j = a + (j + 1) by omega, show a + 1 - b + j = a - b + (j + 1) by omega]
      exact this), show a + 1 + n = a + (n + 1) by omega]
/-- .. and the longest match is one -/
theorem cpy_mch {K : ByteArray} {a b n : Nat} (hb : 1 ≤ b) (hba : b ≤ a) (hn : n ≤ mch K a (a - b)) (ha : a ≤ K.size) : cpy n (b - 1) (K.data.toList.take a) = K.data.toList.take (a + n) := by
  have hl : K.data.toList.length = K.size := rfl
  have hle := mch_le ha (a - b)
  refine cpy_match _ n a b hb hba (by rw [hl]; omega) fun j hj => ?_
  have h := eqN_at 130 (K.data.toList.drop a) (K.data.toList.drop (a - b)) j (by unfold mch at hn; omega) (by rw [List.length_drop, hl]; omega) (by rw [List.length_drop, hl]; omega)
  rw [List.getElem_drop, List.getElem_drop] at h
  rw [List.getD_eq_getElem?_getD, List.getD_eq_getElem?_getD, List.getElem?_eq_getElem (by rw [hl]; omega), List.getElem?_eq_getElem (by rw [hl]; omega)]
  exact h
theorem bstD_is {K : ByteArray} {a : Nat} : ∀ (d n b : Nat), bstD K a d = (n, b) → 0 < n → 1 ≤ b ∧ b ≤ d ∧ n = mch K a (a - b)
  | 0, n, b, h, h0 => by simp [bstD] at h; omega
  | d + 1, n, b, h, h0 => by
    unfold bstD at h
    split at h
    · obtain ⟨rfl, rfl⟩ := Prod.mk.inj h
      exact ⟨by omega, by omega, rfl⟩
    · have := bstD_is d n b h h0
      exact ⟨this.1, by omega, this.2.2⟩
/-- what Unpack makes of a match that Pack found -/
theorem cpy_bst {K : ByteArray} {a n b : Nat} (h : bst K a = (n, b)) (h0 : 0 < n) (ha : a ≤ K.size) : 1 ≤ b ∧ b ≤ a ∧ b ≤ 32768 ∧ cpy n (b - 1) (K.data.toList.take a) = K.data.toList.take (a + n) := by
  have h1 := bstD_is _ n b h h0
  have h2 : b ≤ a := by omega
  exact ⟨h1.1, h2, by omega, cpy_mch h1.1 h2 (by rw [← h1.2.2]; exact Nat.le_refl _) ha⟩
open Go.RowKit
theorem uwin_litW {K : ByteArray} {f a m : Nat} (rest : List UInt8) (h68 : 68 ≤ f) (hf : f ≤ a) (h128 : a - f ≤ 128) (ha : a ≤ K.size) (hm : K.size - 68 ≤ m) : uwin (litW K f a ++ rest) (K.data.toList.take f) m = uwin rest (K.data.toList.take a) m := by
  have hl : K.data.toList.length = K.size := rfl
  by_cases h : f < a
  · obtain ⟨d, hd⟩ : ∃ d, a - f = d + 1 := ⟨a - f - 1, by omega⟩
    have hc : (UInt8.ofNat d).toNat = d := UInt8.toNat_ofNat_of_lt' (show d < 256 by omega)
    have hx : ((K.data.toList.drop f).take (d + 1)).length = d + 1 := by rw [List.length_take, List.length_drop, hl]; omega
    rw [litW, if_pos h, show a - f - 1 = d by omega, hd, List.cons_append]
    obtain ⟨X, hX⟩ : ∃ X, X = (K.data.toList.drop f).take (d + 1) := ⟨_, rfl⟩
    rw [← hX] at hx ⊢
    rw [uwin_lit (by rw [hc]; omega), hc, if_neg (by rw [List.length_append, hx]; omega), if_neg (by rw [List.length_take, hl]; omega)]
    rw [List.drop_left' hx, List.take_left' hx, hX, ← List.take_add, show f + (d + 1) = a by omega]
  · obtain rfl : f = a := by omega
    rw [litW_none, List.nil_append]
theorem uwin_mtW {K : ByteArray} {a n b m : Nat} (rest : List UInt8) (hb : bst K a = (n, b)) (h4 : 4 ≤ n) (h68 : 68 ≤ a) (ha : a ≤ K.size) (hm : K.size - 68 ≤ m) : uwin (mtW n b ++ rest) (K.data.toList.take a) m = uwin rest (K.data.toList.take (a + n)) m := by
  have hl : K.data.toList.length = K.size := rfl
  have h1 := cpy_bst hb (by omega) ha
  have h2 := bstD_le ha (min a 32768)
  have h3 : bstD K a (min a 32768) = (n, b) := hb
  rw [h3] at h2
  simp only at h2
  have hc : (UInt8.ofNat (n + 124)).toNat = n + 124 := UInt8.toNat_ofNat_of_lt' (show n + 124 < 256 by omega)
  have hx : (UInt8.ofNat ((b - 1) / 256)).toNat = (b - 1) / 256 := UInt8.toNat_ofNat_of_lt' (show (b - 1) / 256 < 256 by omega)
  have hy : (UInt8.ofNat ((b - 1) % 256)).toNat = (b - 1) % 256 := UInt8.toNat_ofNat_of_lt' (show (b - 1) % 256 < 256 by omega)
  show uwin (UInt8.ofNat (n + 124) :: UInt8.ofNat ((b - 1) / 256) :: UInt8.ofNat ((b - 1) % 256) :: rest) _ m = _
  rw [uwin_match (by rw [hc]; omega) (by rw [hc]; omega), hc, hx, hy, show (b - 1) / 256 * 256 + (b - 1) % 256 = b - 1 by omega, show n + 124 - 124 = n by omega]
  rw [if_neg (by rw [List.length_take, hl]; omega), if_neg (by rw [List.length_take, hl]; omega), h1.2.2.2]
theorem uwin_wpF {K : ByteArray} {m : Nat} (hm : K.size - 68 ≤ m) : ∀ (k a f : Nat), K.size - a ≤ k → 68 ≤ f → f ≤ a → a - f ≤ 127 → a ≤ K.size → uwin (wpF K a f) (K.data.toList.take f) m = .ok K.data.toList
  | k, a, f, hk, h68, hf, h127, ha => by
    have hl : K.data.toList.length = K.size := rfl
    by_cases h : K.size ≤ a
    · have := uwin_litW (K := K) (f := f) (a := a) (m := m) [] h68 hf (by omega) ha hm
      rw [List.append_nil] at this
      rw [wpF_end h, this, uwin_nil, List.take_of_length_le (by rw [hl]; omega)]
    · cases k with
      | zero => omega
      | succ k =>
        obtain ⟨n, b, hb⟩ : ∃ n b, bst K a = (n, b) := ⟨_, _, rfl⟩
        by_cases h4 : n < 4
        · by_cases h8 : a + 1 - f = 128
          · rw [wpF_cut (by omega) (by rw [hb]; exact h4) h8, uwin_litW _ h68 (by omega) (by omega) (by omega) hm]
            exact uwin_wpF hm k (a + 1) (a + 1) (by omega) (by omega) (by omega) (by omega) (by omega)
          · rw [wpF_lit (by omega) (by rw [hb]; exact h4) h8]
            exact uwin_wpF hm k (a + 1) f (by omega) (by omega) (by omega) (by omega) (by omega)
        · have h2 := bstD_le ha (min a 32768)
          have h3 : bstD K a (min a 32768) = (n, b) := hb
          rw [h3] at h2
          simp only at h2
          rw [wpF_match (by omega) hb (by omega), uwin_litW _ h68 hf (by omega) ha hm, uwin_mtW _ hb (by omega) (by omega) ha hm]
          exact uwin_wpF hm k (a + n) (a + n) (by omega) (by omega) (by omega) (by omega) (by omega)
/-- window.Unpack after window.Pack -/
theorem uwin_wpk {s : List UInt8} {m : Nat} (hm : s.length ≤ m) : uwin (wpk s) statL m = .ok (statL ++ s) := by
  have hz : (bstr (statL ++ s)).size = s.length + 68 := by rw [bstr_size, List.length_append, statL_length]; omega
  have h := uwin_wpF (K := bstr (statL ++ s)) (m := m) (by omega) _ 68 68 (Nat.le_refl _) (by omega) (by omega) (by omega) (by omega)
  have hs : (bstr (statL ++ s)).data.toList.take 68 = statL := List.take_left' rfl
  rw [hs] at h
  exact h
open Go.RowKit
set_option maxHeartbeats 1000000
theorem litN_stop : ∀ (k : Nat) (l : List UInt8), litN k l < k → l.drop (litN k l) = [] ∨ three (l.drop (litN k l)) = true
  | 0, l, h => by simp [litN] at h
  | k + 1, [], _ => .inl (by simp)
  | k + 1, x :: l, h => by
    by_cases h3 : three (x :: l) = true
    · right
      simp only [litN, if_pos h3, List.drop_zero]
      exact h3
    · simp only [litN, if_neg h3] at h ⊢
      rw [List.drop_succ_cons]
      exact litN_stop k l (by omega)
theorem rpk_len128 : ∀ (f : Nat) (l : List UInt8), l.length ≤ f → 128 * (rpk l).length ≤ 129 * l.length + 128 ∧ (l = [] ∨ three l = true → 128 * (rpk l).length ≤ 129 * l.length)
  | f, [], _ => by simp [rpk_nil]
  | 0, c :: l, h => by simp at h
  | f + 1, c :: l, h => by
    have hl : (c :: l).length = l.length + 1 := rfl
    by_cases h3 : three (c :: l) = true
    · have hN := three_run h3
      have hle := runN_le c 130 (c :: l)
      have ih := (rpk_len128 f ((c :: l).drop (runN c 130 (c :: l))) (by rw [List.length_drop]; omega)).1
      rw [List.length_drop] at ih
      have hr : (rpk (c :: l)).length = 2 + (rpk ((c :: l).drop (runN c 130 (c :: l)))).length := by rw [rpk_run h3]; simp; omega
      rw [hr]
      exact ⟨by omega, fun _ => by omega⟩
    · have h3' : three (c :: l) = false := by simpa using h3
      have hp : 0 < litN 128 (c :: l) := litN_pos (k := 127) h3'
      have hle := litN_le 128 (c :: l)
      have ih := rpk_len128 f ((c :: l).drop (litN 128 (c :: l))) (by rw [List.length_drop]; omega)
      have hst := litN_stop 128 (c :: l)
      rw [List.length_drop] at ih
      have hr : (rpk (c :: l)).length = 1 + litN 128 (c :: l) + (rpk ((c :: l).drop (litN 128 (c :: l)))).length := by
        rw [rpk_lit h3', List.length_cons, List.length_append, List.length_take]; omega
      rw [hr]
      refine ⟨?_, fun h => absurd h (by simp [h3])⟩
      by_cases h8 : litN 128 (c :: l) = 128
      · have := ih.1; omega
      · have := ih.2 (hst (by omega)); omega
def be32 (x : Nat) : List UInt8 := [UInt8.ofNat (x / 16777216), UInt8.ofNat (x / 65536), UInt8.ofNat (x / 256), UInt8.ofNat x]
theorem be32_length (x : Nat) : (be32 x).length = 4 := rfl
def be4 (l : List UInt8) : Nat := (l.getD 0 0).toNat * 16777216 + (l.getD 1 0).toNat * 65536 + (l.getD 2 0).toNat * 256 + (l.getD 3 0).toNat
theorem be4_be32 {x : Nat} (h : x < 4294967296) : be4 (be32 x) = x := by
  simp only [be4, be32, List.getD_cons_zero, List.getD_cons_succ, UInt8.toNat_ofNat']
  omega
theorem be32_be4 {l : List UInt8} (h : l.length = 4) : be32 (be4 l) = l := by
  match l, h with
  | [a, b, c, d], _ =>
    have ha := a.toNat_lt
    have hb := b.toNat_lt
    have hc := c.toNat_lt
    have hd := d.toNat_lt
    simp only [be4, be32, List.getD_cons_zero, List.getD_cons_succ, List.cons.injEq, and_true]
    refine ⟨?_, ?_, ?_, ?_⟩ <;> apply UInt8.toNat_inj.1 <;> rw [UInt8.toNat_ofNat'] <;> omega
theorem crc_lt (l : List UInt8) : crc l < 4294967296 := by unfold crc; omega
def headL (w : Nat) (l : List UInt8) : List UInt8 := UInt8.ofNat w :: (numEnc l.length ++ be32 (crc l))
def wayL : Nat → List UInt8 → List UInt8
  | 1, l => rpk l
  | 2, l => wpk l
  | 3, l => wpk (rpk l)
  | _, l => l
/-- the shortest of the first ways -/
def bestW (l : List UInt8) : Nat → Nat × List UInt8
  | 0 => (0, l)
  | k + 1 => if (wayL (k + 1) l).length < (bestW l k).2.length then (k + 1, wayL (k + 1) l) else bestW l k
theorem bestW_is (l : List UInt8) : ∀ k, (bestW l k).2 = wayL (bestW l k).1 l ∧ (bestW l k).1 ≤ k ∧ (bestW l k).2.length ≤ l.length
  | 0 => ⟨rfl, Nat.le_refl _, Nat.le_refl _⟩
  | k + 1 => by
    have h := bestW_is l k
    unfold bestW
    split
    · exact ⟨rfl, Nat.le_refl _, by simp only; omega⟩
    · exact ⟨h.1, by omega, h.2.2⟩
/-- crate.Pack, of what is not too long -/
def packL (l : List UInt8) : List UInt8 := headL (bestW l 3).1 l ++ (bestW l 3).2
def uwin8 (l : List UInt8) (m : Nat) : Except Int (List UInt8) := match uwin l statL m with | .ok K => .ok (K.drop 68) | .error e => .error e
def unpL (w : Nat) (l : List UInt8) (m : Nat) : Except Int (List UInt8) :=
  match w with
  | 1 => urun l [] m
  | 2 => uwin8 l m
  | 3 => match uwin8 l 33068 with | .ok t => urun t [] m | .error e => .error e
  | _ => .ok l
/-- what stands behind the head -/
def openT (w : Nat) (r : List UInt8) (n k : Nat) : Except Int (List UInt8) :=
  match unpL w (r.drop (k + 4)) n with
  | .error e => .error e
  | .ok t => if t.length ≠ n then .error 6 else if crc t ≠ be4 ((r.drop k).take 4) then .error 7 else .ok t
/-- crate.Open -/
def openL (s : List UInt8) (most : Int) : Except Int (List UInt8) :=
  if most < 0 then .error 2
  else match s with
    | [] => .error 5
    | c :: r =>
      if 3 < c.toNat then .error 6
      else match rdN r with
        | .error e => .error e
        | .ok (n, k) => if most < n ∨ 32768 < n then .error 3 else if r.length < k + 4 then .error 5 else openT c.toNat r n k
theorem uwin8_wpk {s : List UInt8} {m : Nat} (hm : s.length ≤ m) : uwin8 (wpk s) m = .ok s := by
  rw [uwin8, uwin_wpk hm]
  show Except.ok _ = _
  rw [List.drop_left' statL_length]
theorem unpL_way {w : Nat} {l : List UInt8} {m : Nat} (hw : w ≤ 3) (hl : l.length ≤ m) (h : l.length ≤ 32768) : unpL w (wayL w l) m = .ok l := by
  have hr := (rpk_len128 _ l (Nat.le_refl _)).1
  match w, hw with
  | 0, _ => rfl
  | 1, _ => exact urun_rpk hl
  | 2, _ => exact uwin8_wpk hl
  | 3, _ =>
    show (match uwin8 (wpk (rpk l)) 33068 with | .ok t => urun t [] m | .error e => .error e) = _
    rw [uwin8_wpk (by omega)]
    exact urun_rpk hl
theorem head_read {w : Nat} {l x : List UInt8} {m : Int} (hw : w ≤ 3) (h : l.length ≤ 32768) (hm : 0 ≤ m) : openL (headL w l ++ x) m = if m < l.length then .error 3 else openT w (numEnc l.length ++ be32 (crc l) ++ x) l.length (numEnc l.length).length := by
  have hc : (UInt8.ofNat w).toNat = w := UInt8.toNat_ofNat_of_lt' (show w < 256 by omega)
  unfold openL headL
  rw [if_neg (by omega), List.cons_append]
  dsimp only
  rw [hc, if_neg (by omega), List.append_assoc, rdN_enc (by omega)]
  dsimp only
  by_cases h1 : m < l.length
  · rw [if_pos (.inl h1), if_pos h1]
  · rw [if_neg (by omega), if_neg h1, if_neg (by simp only [List.length_append, be32_length]; omega)]
/-- what was packed a way is there again -/
theorem open_head {w : Nat} {l : List UInt8} {m : Int} (hw : w ≤ 3) (h : l.length ≤ 32768) (hm : (l.length : Int) ≤ m) : openL (headL w l ++ wayL w l) m = .ok l := by
  rw [head_read hw h (by omega), if_neg (by omega), openT]
  have hd : (numEnc l.length ++ be32 (crc l) ++ wayL w l).drop ((numEnc l.length).length + 4) = wayL w l := List.drop_left' (by simp [be32_length])
  have ht : ((numEnc l.length ++ be32 (crc l) ++ wayL w l).drop (numEnc l.length).length).take 4 = be32 (crc l) := by
    rw [List.append_assoc, List.drop_left' rfl, List.take_left' (be32_length _)]
  rw [hd, unpL_way hw (Nat.le_refl _) h, ht, be4_be32 (crc_lt l)]
  simp
theorem open_pack {l : List UInt8} {m : Int} (h : l.length ≤ 32768) (hm : (l.length : Int) ≤ m) : openL (packL l) m = .ok l := by
  have hb := bestW_is l 3
  rw [packL, hb.1]
  exact open_head hb.2.1 h hm
theorem open_less {l : List UInt8} {m : Int} (h : l.length ≤ 32768) (h0 : 0 ≤ m) (hm : m < l.length) : openL (packL l) m = .error 3 := by
  rw [packL, head_read (bestW_is l 3).2.1 h h0, if_pos hm]
theorem packL_length {l : List UInt8} (h : l.length ≤ 32768) : (packL l).length ≤ l.length + 9 := by
  have hb := (bestW_is l 3).2.2
  have hn := numB_length_le 2 l.length (by omega)
  simp only [packL, headL, List.length_append, List.length_cons, numEnc_length, be32_length]
  omega
open Go.RowKit
set_option maxHeartbeats 1000000
theorem crcBit_inj {x y : Nat} (hx : x < 4294967296) (hy : y < 4294967296) (h : crcBit x = crcBit y) : x = y := by
  have top : ∀ z, z < 4294967296 → ((z / 2) ^^^ 3988292384).testBit 31 = true := fun z hz => by
    rw [Nat.testBit_xor, Nat.testBit_lt_two_pow (show z / 2 < 2 ^ 31 by omega)]
    decide
  have low : ∀ z, z < 4294967296 → (z / 2).testBit 31 = false := fun z hz => Nat.testBit_lt_two_pow (show z / 2 < 2 ^ 31 by omega)
  unfold crcBit at h
  by_cases h1 : x % 2 = 0 <;> by_cases h2 : y % 2 = 0
  · rw [if_pos h1, if_pos h2] at h; omega
  · rw [if_pos h1, if_neg h2] at h
    have := low x hx
    rw [h, top y hy] at this
    cases this
  · rw [if_neg h1, if_pos h2] at h
    have := low y hy
    rw [← h, top x hx] at this
    cases this
  · rw [if_neg h1, if_neg h2] at h
    have : x / 2 = y / 2 := by
      have h3 := congrArg (· ^^^ 3988292384) h
      simpa [Nat.xor_assoc] using h3
    omega
theorem itN_inj : ∀ (k : Nat) {x y : Nat}, x < 4294967296 → y < 4294967296 → itN crcBit k x = itN crcBit k y → x = y
  | 0, _, _, _, _, h => h
  | k + 1, _, _, hx, hy, h => itN_inj k hx hy (crcBit_inj (itN_lt k hx) (itN_lt k hy) h)
def crcF (x : Nat) (b : UInt8) : Nat := itN crcBit 8 (x ^^^ b.toNat)
theorem crcF_lt {x : Nat} (h : x < 4294967296) (b : UInt8) : crcF x b < 4294967296 := crc_step h b
theorem xor_cancel_right {a b c : Nat} (h : a ^^^ c = b ^^^ c) : a = b := by
  have := congrArg (· ^^^ c) h
  simpa [Nat.xor_assoc] using this
theorem xor_cancel_left {a b c : Nat} (h : c ^^^ a = c ^^^ b) : a = b := xor_cancel_right (c := c) (by rw [Nat.xor_comm a, Nat.xor_comm b]; exact h)
theorem fold_inj : ∀ (l : List UInt8) {x y : Nat}, x < 4294967296 → y < 4294967296 → l.foldl crcF x = l.foldl crcF y → x = y
  | [], _, _, _, _, h => h
  | b :: l, x, y, hx, hy, h => by
    have h1 := fold_inj l (crcF_lt hx b) (crcF_lt hy b) h
    have hb : b.toNat < 4294967296 := Nat.lt_trans (byte_lt b) (by decide)
    exact xor_cancel_right (itN_inj 8 (xor_lt32 hx hb) (xor_lt32 hy hb) h1)
theorem fold_lt : ∀ (l : List UInt8) {x : Nat}, x < 4294967296 → l.foldl crcF x < 4294967296
  | [], _, h => h
  | b :: l, _, h => fold_lt l (crcF_lt h b)
/-- one byte changed changes the sum -/
theorem crc_set {l : List UInt8} {j : Nat} {y : UInt8} (hj : j < l.length) (hy : y ≠ l[j]'hj) : crc (l.set j y) ≠ crc l := by
  intro h
  have h2 : crcAll (l.set j y) = crcAll l := by
    have a := crcAll_lt l
    have b := crcAll_lt (l.set j y)
    unfold crc at h
    omega
  have hl : l = l.take j ++ l[j]'hj :: l.drop (j + 1) := by rw [← List.drop_eq_getElem_cons hj, List.take_append_drop]
  have hs : l.set j y = l.take j ++ y :: l.drop (j + 1) := List.set_eq_take_append_cons_drop.trans (if_pos hj)
  have e : ∀ z : List UInt8, crcAll z = z.foldl crcF 4294967295 := fun _ => rfl
  rw [e, e, hs] at h2
  conv at h2 => rhs; rw [hl]
  rw [List.foldl_append, List.foldl_append, List.foldl_cons, List.foldl_cons] at h2
  obtain ⟨x, hx⟩ : ∃ x, x = (l.take j).foldl crcF 4294967295 := ⟨_, rfl⟩
  have hxl : x < 4294967296 := by rw [hx]; exact fold_lt _ (by decide)
  rw [← hx] at h2
  have h3 := fold_inj _ (crcF_lt hxl y) (crcF_lt hxl _) h2
  have b1 : ∀ b : UInt8, b.toNat < 4294967296 := fun b => Nat.lt_trans (byte_lt b) (by decide)
  have h4 := xor_cancel_left (itN_inj 8 (xor_lt32 hxl (b1 _)) (xor_lt32 hxl (b1 _)) h3)
  exact hy (UInt8.toNat_inj.1 h4)
theorem beN_append (a b : List UInt8) : beN (a ++ b) = beN a * 256 ^ b.length + beN b := by
  have := beN_acc b (beN a)
  rw [← this]
  simp [beN]
theorem beN_inj : ∀ (a b : List UInt8), a.length = b.length → beN a = beN b → a = b
  | [], [], _, _ => rfl
  | [], _ :: _, h, _ => by simp at h
  | _ :: _, [], h, _ => by simp at h
  | x :: a, y :: b, h, he => by
    have hl : a.length = b.length := by simpa using h
    rw [beN_cons, beN_cons, hl] at he
    have ha := beN_lt a
    have hb := beN_lt b
    rw [hl] at ha
    have hp : 0 < 256 ^ b.length := Nat.pow_pos (by decide)
    have h1 : x.toNat = y.toNat := by
      have e1 : (x.toNat * 256 ^ b.length + beN a) / 256 ^ b.length = x.toNat := by rw [Nat.mul_comm, Nat.mul_add_div hp, Nat.div_eq_of_lt ha, Nat.add_zero]
      have e2 : (y.toNat * 256 ^ b.length + beN b) / 256 ^ b.length = y.toNat := by rw [Nat.mul_comm, Nat.mul_add_div hp, Nat.div_eq_of_lt hb, Nat.add_zero]
      rw [← e1, ← e2, he]
    rw [h1] at he
    rw [UInt8.toNat_inj.1 h1, beN_inj a b hl (by omega)]
/-- an error -/
def IsErr (r : Except Int (List UInt8)) : Prop := ∃ e, r = .error e ∧ e ≠ 0
/-- what stands behind the first byte -/
def openR (r : List UInt8) : Except Int (List UInt8) :=
  match rdN r with
  | .error e => .error e
  | .ok (n, k) => if (32768 : Int) < n ∨ 32768 < n then .error 3 else if r.length < k + 4 then .error 5 else openT 0 r n k
theorem openL_zero (r : List UInt8) : openL (0 :: r) 32768 = openR r := rfl
theorem openR_err {r : List UInt8} {e : Int} (h : rdN r = .error e) : IsErr (openR r) := by
  rw [openR, h]
  rcases rdN_err h with rfl | rfl
  · exact ⟨5, rfl, by decide⟩
  · exact ⟨6, rfl, by decide⟩
/-- the length is told wrongly -/
theorem openR_len {r : List UInt8} {n k : Nat} (h : rdN r = .ok (n, k)) (hn : k + 4 ≤ r.length → r.length - (k + 4) ≠ n) : IsErr (openR r) := by
  rw [openR, h]
  dsimp only
  split
  · exact ⟨3, rfl, by decide⟩
  · split
    · exact ⟨5, rfl, by decide⟩
    · rename_i h1
      refine ⟨6, ?_, by decide⟩
      show (if (r.drop (k + 4)).length ≠ n then Except.error 6 else _) = _
      rw [if_pos (by rw [List.length_drop]; exact hn (by omega))]
theorem openR_crc {r : List UInt8} {n k : Nat} (h : rdN r = .ok (n, k)) (hc : crc (r.drop (k + 4)) ≠ be4 ((r.drop k).take 4)) : IsErr (openR r) := by
  rw [openR, h]
  dsimp only
  split
  · exact ⟨3, rfl, by decide⟩
  · split
    · exact ⟨5, rfl, by decide⟩
    · show IsErr (if (r.drop (k + 4)).length ≠ n then Except.error 6 else if crc (r.drop (k + 4)) ≠ be4 ((r.drop k).take 4) then .error 7 else .ok _)
      split
      · exact ⟨6, rfl, by decide⟩
      · exact ⟨7, rfl, by decide⟩
theorem set_append_lo {a b : List UInt8} {i : Nat} {y : UInt8} (h : i < a.length) : (a ++ b).set i y = a.set i y ++ b := List.set_append_left _ _ h
theorem set_append_hi {a b : List UInt8} {i : Nat} {y : UInt8} (h : a.length ≤ i) : (a ++ b).set i y = a ++ b.set (i - a.length) y := List.set_append_right _ _ h
theorem spoilt {l : List UInt8} {i : Nat} {y : UInt8} (hl : l.length ≤ 32768) (hi : i < (numEnc l.length ++ be32 (crc l) ++ l).length) (hy : y ≠ (numEnc l.length ++ be32 (crc l) ++ l)[i]'hi) : IsErr (openR ((numEnc l.length ++ be32 (crc l) ++ l).set i y)) := by
  obtain ⟨n, hn⟩ : ∃ n, n = l.length := ⟨_, rfl⟩
  obtain ⟨B, hB⟩ : ∃ B, B = numB n := ⟨_, rfl⟩
  have hBn : beN B = n := by rw [hB]; exact beN_numB 8 n (by omega)
  have hB2 : B.length ≤ 2 := by rw [hB]; exact numB_length_le 2 n (by omega)
  obtain ⟨X, hX⟩ : ∃ X, X = be32 (crc l) := ⟨_, rfl⟩
  have hX4 : X.length = 4 := by rw [hX]; rfl
  have hE : numEnc l.length = UInt8.ofNat B.length :: B := by rw [← hn, numEnc, hB]
  have hk : (UInt8.ofNat B.length).toNat = B.length := UInt8.toNat_ofNat_of_lt' (show B.length < 256 by omega)
  have hread : ∀ r, rdN (UInt8.ofNat B.length :: (B ++ r)) = .ok (n, B.length + 1) := fun r => by
    have h1 := rdN_enc (n := n) (by omega) r
    have h2 : numEnc n = UInt8.ofNat B.length :: B := by rw [hn, hE]
    rw [h2] at h1
    exact h1
  simp only [hE, ← hX] at hi hy ⊢
  by_cases h0 : i = 0
  · -- the count of the number's bytes
    subst h0
    have hyk : y.toNat ≠ B.length := fun e => hy (by
      rw [← UInt8.toNat_inj]
      show y.toNat = (UInt8.ofNat B.length).toNat
      rw [hk, e])
    show IsErr (openR (y :: (B ++ X ++ l)))
    cases hr : rdN (y :: (B ++ X ++ l)) with
    | error e => exact openR_err hr
    | ok p =>
      obtain ⟨n', k'⟩ := p
      refine openR_len hr fun hle => ?_
      have hr2 := hr
      simp only [rdN] at hr2
      split at hr2
      · cases hr2
      · split at hr2
        · cases hr2
        · split at hr2
          · cases hr2
          · rename_i h1 h2 h3
            obtain ⟨rfl, rfl⟩ := Prod.mk.inj (Except.ok.inj hr2)
            simp only [List.length_cons, List.length_append] at hle h2 ⊢
            rcases Nat.lt_or_gt_of_ne hyk with hlt | hgt
            · have e1 : (B ++ X ++ l).take y.toNat = B.take y.toNat := by rw [List.append_assoc, List.take_append_of_le_length (by omega)]
              have e2 := beN_append (B.take y.toNat) (B.drop y.toNat)
              rw [List.take_append_drop, hBn] at e2
              have hp : 0 < 256 ^ (B.drop y.toNat).length := Nat.pow_pos (by decide)
              have e3 : beN (B.take y.toNat) ≤ beN (B.take y.toNat) * 256 ^ (B.drop y.toNat).length := Nat.le_mul_of_pos_right _ hp
              rw [e1]
              omega
            · by_cases hn0 : n = 0
              · exfalso
                have hB0 : B = [] := by rw [hB, hn0]; exact numB_zero
                have hl0 : l = [] := List.length_eq_zero_iff.1 (by omega)
                apply h3
                refine ⟨by omega, .inl ?_⟩
                rw [hB0, hX, hl0]
                decide
              · have e1 : (B ++ X ++ l).take y.toNat = B ++ (X ++ l).take (y.toNat - B.length) := by rw [List.append_assoc, List.take_append, List.take_of_length_le (by omega)]
                have e2 := beN_append B ((X ++ l).take (y.toNat - B.length))
                have e3 : ((X ++ l).take (y.toNat - B.length)).length = y.toNat - B.length := by rw [List.length_take, List.length_append]; omega
                rw [e1, e2, hBn, e3]
                have hp : 256 ^ 1 ≤ 256 ^ (y.toNat - B.length) := Nat.pow_le_pow_right (by decide) (by omega)
                have e4 : n * 256 ^ 1 ≤ n * 256 ^ (y.toNat - B.length) := Nat.mul_le_mul_left _ hp
                omega
  · obtain ⟨j, rfl⟩ : ∃ j, i = j + 1 := ⟨i - 1, by omega⟩
    have hset : (UInt8.ofNat B.length :: B ++ X ++ l).set (j + 1) y = UInt8.ofNat B.length :: (B ++ (X ++ l)).set j y := by rw [List.cons_append, List.cons_append, List.set_cons_succ, List.append_assoc]
    have hget : (UInt8.ofNat B.length :: B ++ X ++ l)[j + 1]'hi = (B ++ (X ++ l))[j]'(by simp only [List.length_cons, List.length_append] at hi ⊢; omega) := by simp [List.append_assoc]
    rw [hset]
    rw [hget] at hy
    by_cases h1 : j < B.length
    · -- the number
      rw [set_append_lo h1]
      rw [List.getElem_append_left h1] at hy
      have hne : B.set j y ≠ B := fun e => hy (by
        have : (B.set j y)[j]'(by simpa using h1) = y := List.getElem_set_self _
        rw [← this]
        simp only [e])
      cases hr : rdN (UInt8.ofNat B.length :: (B.set j y ++ (X ++ l))) with
      | error e => exact openR_err hr
      | ok p =>
        obtain ⟨n', k'⟩ := p
        refine openR_len hr fun hle => ?_
        have hr2 := hr
        simp only [rdN, hk] at hr2
        split at hr2
        · cases hr2
        · split at hr2
          · cases hr2
          · split at hr2
            · cases hr2
            · obtain ⟨rfl, rfl⟩ := Prod.mk.inj (Except.ok.inj hr2)
              rw [List.take_left' (by simp)]
              simp only [List.length_cons, List.length_append, List.length_set] at hle ⊢
              intro e
              refine hne (beN_inj _ _ (by simp) ?_)
              rw [hBn]
              omega
    · rw [set_append_hi (by omega)]
      have hr := hread ((X ++ l).set (j - B.length) y)
      have hd0 : (UInt8.ofNat B.length :: (B ++ (X ++ l).set (j - B.length) y)).drop (B.length + 1) = (X ++ l).set (j - B.length) y := by rw [List.drop_succ_cons, List.drop_left' rfl]
      have hd4 : (UInt8.ofNat B.length :: (B ++ (X ++ l).set (j - B.length) y)).drop (B.length + 1 + 4) = ((X ++ l).set (j - B.length) y).drop 4 := by rw [← List.drop_drop, hd0]
      refine openR_crc hr ?_
      rw [hd4, hd0]
      rw [List.getElem_append_right (by omega)] at hy
      by_cases h2 : j - B.length < 4
      · -- the sum
        rw [set_append_lo (by omega), List.drop_left' (by simpa using hX4), List.take_left' (by simpa using hX4)]
        rw [List.getElem_append_left (by omega)] at hy
        intro e
        have e2 := be32_be4 (l := X.set (j - B.length) y) (by simpa using hX4)
        rw [← e, ← hX] at e2
        refine hy ?_
        have : (X.set (j - B.length) y)[j - B.length]'(by simp; omega) = y := List.getElem_set_self _
        rw [← this]
        simp only [← e2]
      · -- the bytes
        rw [set_append_hi (by omega), List.drop_left' hX4, List.take_left' hX4, hX, be4_be32 (crc_lt l)]
        rw [List.getElem_append_right (by omega)] at hy
        rw [← hX]
        exact crc_set _ hy
end Go.Proofs.YtbeooeihedhabaaDoor
