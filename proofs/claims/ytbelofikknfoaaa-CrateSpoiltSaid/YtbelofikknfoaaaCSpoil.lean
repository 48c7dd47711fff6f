/- crate: of bytes that are packed as they are, one byte changed behind the first is told by an error. -/
import Derived.Test.YtbelofikknfoaaaCCrate
namespace Go.Proofs.Ytbelofikknfoaaa
open Go.RowKit
set_option maxHeartbeats 1000000
theorem crcBit_inj {x y : Nat} (hx : x < 4294967296) (hy : y < 4294967296) (h : crcBit x = crcBit y) : x = y := by
  have top : ∀ z, z < 4294967296 → ((z / 2) ^^^ 3988292384).testBit 31 = true := fun z hz => by
    rw [Nat.testBit_xor, Nat.testBit_lt_two_pow (show z / 2 < 2 ^ 31 by omega)]
    decide
  have low : ∀ z, z < 4294967296 → (z / 2).testBit 31 = false := fun z hz => Nat.testBit_lt_two_pow (show z / 2 < 2 ^ 31 by omega)
  unfold crcBit at h
  by_cases h1 : x % 2 = 0 <;> by_cases h2 : y % 2 = 0
  · rw [if_pos h1, if_pos h2] at h; omega
  · rw [if_pos h1, if_neg h2] at h
    have := low x hx
    rw [h, top y hy] at this
    cases this
  · rw [if_neg h1, if_pos h2] at h
    have := low y hy
    rw [← h, top x hx] at this
    cases this
  · rw [if_neg h1, if_neg h2] at h
    have : x / 2 = y / 2 := by
      have h3 := congrArg (· ^^^ 3988292384) h
      simpa [Nat.xor_assoc] using h3
    omega
theorem itN_inj : ∀ (k : Nat) {x y : Nat}, x < 4294967296 → y < 4294967296 → itN crcBit k x = itN crcBit k y → x = y
  | 0, _, _, _, _, h => h
  | k + 1, _, _, hx, hy, h => itN_inj k hx hy (crcBit_inj (itN_lt k hx) (itN_lt k hy) h)
def crcF (x : Nat) (b : UInt8) : Nat := itN crcBit 8 (x ^^^ b.toNat)
theorem crcF_lt {x : Nat} (h : x < 4294967296) (b : UInt8) : crcF x b < 4294967296 := crc_step h b
theorem xor_cancel_right {a b c : Nat} (h : a ^^^ c = b ^^^ c) : a = b := by
  have := congrArg (· ^^^ c) h
  simpa [Nat.xor_assoc] using this
theorem xor_cancel_left {a b c : Nat} (h : c ^^^ a = c ^^^ b) : a = b := xor_cancel_right (c := c) (by rw [Nat.xor_comm a, Nat.xor_comm b]; exact h)
theorem fold_inj : ∀ (l : List UInt8) {x y : Nat}, x < 4294967296 → y < 4294967296 → l.foldl crcF x = l.foldl crcF y → x = y
  | [], _, _, _, _, h => h
  | b :: l, x, y, hx, hy, h => by
    have h1 := fold_inj l (crcF_lt hx b) (crcF_lt hy b) h
    have hb : b.toNat < 4294967296 := Nat.lt_trans (byte_lt b) (by decide)
    exact xor_cancel_right (itN_inj 8 (xor_lt32 hx hb) (xor_lt32 hy hb) h1)
theorem fold_lt : ∀ (l : List UInt8) {x : Nat}, x < 4294967296 → l.foldl crcF x < 4294967296
  | [], _, h => h
  | b :: l, _, h => fold_lt l (crcF_lt h b)
/-- one byte changed changes the sum -/
theorem crc_set {l : List UInt8} {j : Nat} {y : UInt8} (hj : j < l.length) (hy : y ≠ l[j]'hj) : crc (l.set j y) ≠ crc l := by
  intro h
  have h2 : crcAll (l.set j y) = crcAll l := by
    have a := crcAll_lt l
    have b := crcAll_lt (l.set j y)
    unfold crc at h
    omega
  have hl : l = l.take j ++ l[j]'hj :: l.drop (j + 1) := by rw [← List.drop_eq_getElem_cons hj, List.take_append_drop]
  have hs : l.set j y = l.take j ++ y :: l.drop (j + 1) := List.set_eq_take_append_cons_drop.trans (if_pos hj)
  have e : ∀ z : List UInt8, crcAll z = z.foldl crcF 4294967295 := fun _ => rfl
  rw [e, e, hs] at h2
  conv at h2 => rhs; rw [hl]
  rw [List.foldl_append, List.foldl_append, List.foldl_cons, List.foldl_cons] at h2
  obtain ⟨x, hx⟩ : ∃ x, x = (l.take j).foldl crcF 4294967295 := ⟨_, rfl⟩
  have hxl : x < 4294967296 := by rw [hx]; exact fold_lt _ (by decide)
  rw [← hx] at h2
  have h3 := fold_inj _ (crcF_lt hxl y) (crcF_lt hxl _) h2
  have b1 : ∀ b : UInt8, b.toNat < 4294967296 := fun b => Nat.lt_trans (byte_lt b) (by decide)
  have h4 := xor_cancel_left (itN_inj 8 (xor_lt32 hxl (b1 _)) (xor_lt32 hxl (b1 _)) h3)
  exact hy (UInt8.toNat_inj.1 h4)
theorem beN_append (a b : List UInt8) : beN (a ++ b) = beN a * 256 ^ b.length + beN b := by
  have := beN_acc b (beN a)
  rw [← this]
  simp [beN]
theorem beN_inj : ∀ (a b : List UInt8), a.length = b.length → beN a = beN b → a = b
  | [], [], _, _ => rfl
  | [], _ :: _, h, _ => by simp at h
  | _ :: _, [], h, _ => by simp at h
  | x :: a, y :: b, h, he => by
    have hl : a.length = b.length := by simpa using h
    rw [beN_cons, beN_cons, hl] at he
    have ha := beN_lt a
    have hb := beN_lt b
    rw [hl] at ha
    have hp : 0 < 256 ^ b.length := Nat.pow_pos (by decide)
    have h1 : x.toNat = y.toNat := by
      have e1 : (x.toNat * 256 ^ b.length + beN a) / 256 ^ b.length = x.toNat := by rw [Nat.mul_comm, Nat.mul_add_div hp, Nat.div_eq_of_lt ha, Nat.add_zero]
      have e2 : (y.toNat * 256 ^ b.length + beN b) / 256 ^ b.length = y.toNat := by rw [Nat.mul_comm, Nat.mul_add_div hp, Nat.div_eq_of_lt hb, Nat.add_zero]
      rw [← e1, ← e2, he]
    rw [h1] at he
    rw [UInt8.toNat_inj.1 h1, beN_inj a b hl (by omega)]
/-- an error -/
def IsErr (r : Except Int (List UInt8)) : Prop := ∃ e, r = .error e ∧ e ≠ 0
/-- what stands behind the first byte -/
def openR (r : List UInt8) : Except Int (List UInt8) :=
  match rdN r with
  | .error e => .error e
  | .ok (n, k) => if (32768 : Int) < n ∨ 32768 < n then .error 3 else if r.length < k + 4 then .error 5 else openT 0 r n k
theorem openL_zero (r : List UInt8) : openL (0 :: r) 32768 = openR r := rfl
theorem openR_err {r : List UInt8} {e : Int} (h : rdN r = .error e) : IsErr (openR r) := by
  rw [openR, h]
  rcases rdN_err h with rfl | rfl
  · exact ⟨5, rfl, by decide⟩
  · exact ⟨6, rfl, by decide⟩
/-- the length is told wrongly -/
theorem openR_len {r : List UInt8} {n k : Nat} (h : rdN r = .ok (n, k)) (hn : k + 4 ≤ r.length → r.length - (k + 4) ≠ n) : IsErr (openR r) := by
  rw [openR, h]
  dsimp only
  split
  · exact ⟨3, rfl, by decide⟩
  · split
    · exact ⟨5, rfl, by decide⟩
    · rename_i h1
      refine ⟨6, ?_, by decide⟩
      show (if (r.drop (k + 4)).length ≠ n then Except.error 6 else _) = _
      rw [if_pos (by rw [List.length_drop]; exact hn (by omega))]
theorem openR_crc {r : List UInt8} {n k : Nat} (h : rdN r = .ok (n, k)) (hc : crc (r.drop (k + 4)) ≠ be4 ((r.drop k).take 4)) : IsErr (openR r) := by
  rw [openR, h]
  dsimp only
  split
  · exact ⟨3, rfl, by decide⟩
  · split
    · exact ⟨5, rfl, by decide⟩
    · show IsErr (if (r.drop (k + 4)).length ≠ n then Except.error 6 else if crc (r.drop (k + 4)) ≠ be4 ((r.drop k).take 4) then .error 7 else .ok _)
      split
      · exact ⟨6, rfl, by decide⟩
      · exact ⟨7, rfl, by decide⟩
theorem set_append_lo {a b : List UInt8} {i : Nat} {y : UInt8} (h : i < a.length) : (a ++ b).set i y = a.set i y ++ b := List.set_append_left _ _ h
theorem set_append_hi {a b : List UInt8} {i : Nat} {y : UInt8} (h : a.length ≤ i) : (a ++ b).set i y = a ++ b.set (i - a.length) y := List.set_append_right _ _ h
theorem spoilt {l : List UInt8} {i : Nat} {y : UInt8} (hl : l.length ≤ 32768) (hi : i < (numEnc l.length ++ be32 (crc l) ++ l).length) (hy : y ≠ (numEnc l.length ++ be32 (crc l) ++ l)[i]'hi) : IsErr (openR ((numEnc l.length ++ be32 (crc l) ++ l).set i y)) := by
  obtain ⟨n, hn⟩ : ∃ n, n = l.length := ⟨_, rfl⟩
  obtain ⟨B, hB⟩ : ∃ B, B = numB n := ⟨_, rfl⟩
  have hBn : beN B = n := by rw [hB]; exact beN_numB 8 n (by omega)
  have hB2 : B.length ≤ 2 := by rw [hB]; exact numB_length_le 2 n (by omega)
  obtain ⟨X, hX⟩ : ∃ X, X = be32 (crc l) := ⟨_, rfl⟩
  have hX4 : X.length = 4 := by rw [hX]; rfl
  have hE : numEnc l.length = UInt8.ofNat B.length :: B := by rw [← hn, numEnc, hB]
  have hk : (UInt8.ofNat B.length).toNat = B.length := UInt8.toNat_ofNat_of_lt' (show B.length < 256 by omega)
  have hread : ∀ r, rdN (UInt8.ofNat B.length :: (B ++ r)) = .ok (n, B.length + 1) := fun r => by
    have h1 := rdN_enc (n := n) (by omega) r
    have h2 : numEnc n = UInt8.ofNat B.length :: B := by rw [hn, hE]
    rw [h2] at h1
    exact h1
  simp only [hE, ← hX] at hi hy ⊢
  by_cases h0 : i = 0
  · -- the count of the number's bytes
    subst h0
    have hyk : y.toNat ≠ B.length := fun e => hy (by
      rw [← UInt8.toNat_inj]
      show y.toNat = (UInt8.ofNat B.length).toNat
      rw [hk, e])
    show IsErr (openR (y :: (B ++ X ++ l)))
    cases hr : rdN (y :: (B ++ X ++ l)) with
    | error e => exact openR_err hr
    | ok p =>
      obtain ⟨n', k'⟩ := p
      refine openR_len hr fun hle => ?_
      have hr2 := hr
      simp only [rdN] at hr2
      split at hr2
      · cases hr2
      · split at hr2
        · cases hr2
        · split at hr2
          · cases hr2
          · rename_i h1 h2 h3
            obtain ⟨rfl, rfl⟩ := Prod.mk.inj (Except.ok.inj hr2)
            simp only [List.length_cons, List.length_append] at hle h2 ⊢
            rcases Nat.lt_or_gt_of_ne hyk with hlt | hgt
            · have e1 : (B ++ X ++ l).take y.toNat = B.take y.toNat := by rw [List.append_assoc, List.take_append_of_le_length (by omega)]
              have e2 := beN_append (B.take y.toNat) (B.drop y.toNat)
              rw [List.take_append_drop, hBn] at e2
              have hp : 0 < 256 ^ (B.drop y.toNat).length := Nat.pow_pos (by decide)
              have e3 : beN (B.take y.toNat) ≤ beN (B.take y.toNat) * 256 ^ (B.drop y.toNat).length := Nat.le_mul_of_pos_right _ hp
              rw [e1]
              omega
            · by_cases hn0 : n = 0
              · exfalso
                have hB0 : B = [] := by rw [hB, hn0]; exact numB_zero
                have hl0 : l = [] := List.length_eq_zero_iff.1 (by omega)
                apply h3
                refine ⟨by omega, .inl ?_⟩
                rw [hB0, hX, hl0]
                decide
              · have e1 : (B ++ X ++ l).take y.toNat = B ++ (X ++ l).take (y.toNat - B.length) := by rw [List.append_assoc, List.take_append, List.take_of_length_le (by omega)]
                have e2 := beN_append B ((X ++ l).take (y.toNat - B.length))
                have e3 : ((X ++ l).take (y.toNat - B.length)).length = y.toNat - B.length := by rw [List.length_take, List.length_append]; omega
                rw [e1, e2, hBn, e3]
                have hp : 256 ^ 1 ≤ 256 ^ (y.toNat - B.length) := Nat.pow_le_pow_right (by decide) (by omega)
                have e4 : n * 256 ^ 1 ≤ n * 256 ^ (y.toNat - B.length) := Nat.mul_le_mul_left _ hp
                omega
  · obtain ⟨j, rfl⟩ : ∃ j, i = j + 1 := ⟨i - 1, by omega⟩
    have hset : (UInt8.ofNat B.length :: B ++ X ++ l).set (j + 1) y = UInt8.ofNat B.length :: (B ++ (X ++ l)).set j y := by rw [List.cons_append, List.cons_append, List.set_cons_succ, List.append_assoc]
    have hget : (UInt8.ofNat B.length :: B ++ X ++ l)[j + 1]'hi = (B ++ (X ++ l))[j]'(by simp only [List.length_cons, List.length_append] at hi ⊢; omega) := by simp [List.append_assoc]
    rw [hset]
    rw [hget] at hy
    by_cases h1 : j < B.length
    · -- the number
      rw [set_append_lo h1]
      rw [List.getElem_append_left h1] at hy
      have hne : B.set j y ≠ B := fun e => hy (by
        have : (B.set j y)[j]'(by simpa using h1) = y := List.getElem_set_self _
        rw [← this]
        simp only [e])
      cases hr : rdN (UInt8.ofNat B.length :: (B.set j y ++ (X ++ l))) with
      | error e => exact openR_err hr
      | ok p =>
        obtain ⟨n', k'⟩ := p
        refine openR_len hr fun hle => ?_
        have hr2 := hr
        simp only [rdN, hk] at hr2
        split at hr2
        · cases hr2
        · split at hr2
          · cases hr2
          · split at hr2
            · cases hr2
            · obtain ⟨rfl, rfl⟩ := Prod.mk.inj (Except.ok.inj hr2)
              rw [List.take_left' (by simp)]
              simp only [List.length_cons, List.length_append, List.length_set] at hle ⊢
              intro e
              refine hne (beN_inj _ _ (by simp) ?_)
              rw [hBn]
              omega
    · rw [set_append_hi (by omega)]
      have hr := hread ((X ++ l).set (j - B.length) y)
      have hd0 : (UInt8.ofNat B.length :: (B ++ (X ++ l).set (j - B.length) y)).drop (B.length + 1) = (X ++ l).set (j - B.length) y := by rw [List.drop_succ_cons, List.drop_left' rfl]
      have hd4 : (UInt8.ofNat B.length :: (B ++ (X ++ l).set (j - B.length) y)).drop (B.length + 1 + 4) = ((X ++ l).set (j - B.length) y).drop 4 := by rw [← List.drop_drop, hd0]
      refine openR_crc hr ?_
      rw [hd4, hd0]
      rw [List.getElem_append_right (by omega)] at hy
      by_cases h2 : j - B.length < 4
      · -- the sum
        rw [set_append_lo (by omega), List.drop_left' (by simpa using hX4), List.take_left' (by simpa using hX4)]
        rw [List.getElem_append_left (by omega)] at hy
        intro e
        have e2 := be32_be4 (l := X.set (j - B.length) y) (by simpa using hX4)
        rw [← e, ← hX] at e2
        refine hy ?_
        have : (X.set (j - B.length) y)[j - B.length]'(by simp; omega) = y := List.getElem_set_self _
        rw [← this]
        simp only [← e2]
      · -- the bytes
        rw [set_append_hi (by omega), List.drop_left' hX4, List.take_left' hX4, hX, be4_be32 (crc_lt l)]
        rw [List.getElem_append_right (by omega)] at hy
        rw [← hX]
        exact crc_set _ hy
end Go.Proofs.Ytbelofikknfoaaa
