/- crate: what Pack and Open compute, over lists of bytes. -/
import Derived.Test.YtbelofikknfoaaaCNumBack
import Derived.Test.YtbelofikknfoaaaCBackR
import Derived.Test.YtbelofikknfoaaaCBackW2
namespace Go.Proofs.Ytbelofikknfoaaa
open Go.RowKit
set_option maxHeartbeats 1000000
theorem litN_stop : ∀ (k : Nat) (l : List UInt8), litN k l < k → l.drop (litN k l) = [] ∨ three (l.drop (litN k l)) = true
  | 0, l, h => by simp [litN] at h
  | k + 1, [], _ => .inl (by simp)
  | k + 1, x :: l, h => by
    by_cases h3 : three (x :: l) = true
    · right
      simp only [litN, if_pos h3, List.drop_zero]
      exact h3
    · simp only [litN, if_neg h3] at h ⊢
      rw [List.drop_succ_cons]
      exact litN_stop k l (by omega)
theorem rpk_len128 : ∀ (f : Nat) (l : List UInt8), l.length ≤ f → 128 * (rpk l).length ≤ 129 * l.length + 128 ∧ (l = [] ∨ three l = true → 128 * (rpk l).length ≤ 129 * l.length)
  | f, [], _ => by simp [rpk_nil]
  | 0, c :: l, h => by simp at h
  | f + 1, c :: l, h => by
    have hl : (c :: l).length = l.length + 1 := rfl
    by_cases h3 : three (c :: l) = true
    · have hN := three_run h3
      have hle := runN_le c 130 (c :: l)
      have ih := (rpk_len128 f ((c :: l).drop (runN c 130 (c :: l))) (by rw [List.length_drop]; omega)).1
      rw [List.length_drop] at ih
      have hr : (rpk (c :: l)).length = 2 + (rpk ((c :: l).drop (runN c 130 (c :: l)))).length := by rw [rpk_run h3]; simp; omega
      rw [hr]
      exact ⟨by omega, fun _ => by omega⟩
    · have h3' : three (c :: l) = false := by simpa using h3
      have hp : 0 < litN 128 (c :: l) := litN_pos (k := 127) h3'
      have hle := litN_le 128 (c :: l)
      have ih := rpk_len128 f ((c :: l).drop (litN 128 (c :: l))) (by rw [List.length_drop]; omega)
      have hst := litN_stop 128 (c :: l)
      rw [List.length_drop] at ih
      have hr : (rpk (c :: l)).length = 1 + litN 128 (c :: l) + (rpk ((c :: l).drop (litN 128 (c :: l)))).length := by
        rw [rpk_lit h3', List.length_cons, List.length_append, List.length_take]; omega
      rw [hr]
      refine ⟨?_, fun h => absurd h (by simp [h3])⟩
      by_cases h8 : litN 128 (c :: l) = 128
      · have := ih.1; omega
      · have := ih.2 (hst (by omega)); omega
def be32 (x : Nat) : List UInt8 := [UInt8.ofNat (x / 16777216), UInt8.ofNat (x / 65536), UInt8.ofNat (x / 256), UInt8.ofNat x]
theorem be32_length (x : Nat) : (be32 x).length = 4 := rfl
def be4 (l : List UInt8) : Nat := (l.getD 0 0).toNat * 16777216 + (l.getD 1 0).toNat * 65536 + (l.getD 2 0).toNat * 256 + (l.getD 3 0).toNat
theorem be4_be32 {x : Nat} (h : x < 4294967296) : be4 (be32 x) = x := by
  simp only [be4, be32, List.getD_cons_zero, List.getD_cons_succ, UInt8.toNat_ofNat']
  omega
theorem be32_be4 {l : List UInt8} (h : l.length = 4) : be32 (be4 l) = l := by
  match l, h with
  | [a, b, c, d], _ =>
    have ha := a.toNat_lt
    have hb := b.toNat_lt
    have hc := c.toNat_lt
    have hd := d.toNat_lt
    simp only [be4, be32, List.getD_cons_zero, List.getD_cons_succ, List.cons.injEq, and_true]
    refine ⟨?_, ?_, ?_, ?_⟩ <;> apply UInt8.toNat_inj.1 <;> rw [UInt8.toNat_ofNat'] <;> omega
theorem crc_lt (l : List UInt8) : crc l < 4294967296 := by unfold crc; omega
def headL (w : Nat) (l : List UInt8) : List UInt8 := UInt8.ofNat w :: (numEnc l.length ++ be32 (crc l))
def wayL : Nat → List UInt8 → List UInt8
  | 1, l => rpk l
  | 2, l => wpk l
  | 3, l => wpk (rpk l)
  | _, l => l
/-- the shortest of the first ways -/
def bestW (l : List UInt8) : Nat → Nat × List UInt8
  | 0 => (0, l)
  | k + 1 => if (wayL (k + 1) l).length < (bestW l k).2.length then (k + 1, wayL (k + 1) l) else bestW l k
theorem bestW_is (l : List UInt8) : ∀ k, (bestW l k).2 = wayL (bestW l k).1 l ∧ (bestW l k).1 ≤ k ∧ (bestW l k).2.length ≤ l.length
  | 0 => ⟨rfl, Nat.le_refl _, Nat.le_refl _⟩
  | k + 1 => by
    have h := bestW_is l k
    unfold bestW
    split
    · exact ⟨rfl, Nat.le_refl _, by simp only; omega⟩
    · exact ⟨h.1, by omega, h.2.2⟩
/-- crate.Pack, of what is not too long -/
def packL (l : List UInt8) : List UInt8 := headL (bestW l 3).1 l ++ (bestW l 3).2
def uwin8 (l : List UInt8) (m : Nat) : Except Int (List UInt8) := match uwin l statL m with | .ok K => .ok (K.drop 68) | .error e => .error e
def unpL (w : Nat) (l : List UInt8) (m : Nat) : Except Int (List UInt8) :=
  match w with
  | 1 => urun l [] m
  | 2 => uwin8 l m
  | 3 => match uwin8 l 33068 with | .ok t => urun t [] m | .error e => .error e
  | _ => .ok l
/-- what stands behind the head -/
def openT (w : Nat) (r : List UInt8) (n k : Nat) : Except Int (List UInt8) :=
  match unpL w (r.drop (k + 4)) n with
  | .error e => .error e
  | .ok t => if t.length ≠ n then .error 6 else if crc t ≠ be4 ((r.drop k).take 4) then .error 7 else .ok t
/-- crate.Open -/
def openL (s : List UInt8) (most : Int) : Except Int (List UInt8) :=
  if most < 0 then .error 2
  else match s with
    | [] => .error 5
    | c :: r =>
      if 3 < c.toNat then .error 6
      else match rdN r with
        | .error e => .error e
        | .ok (n, k) => if most < n ∨ 32768 < n then .error 3 else if r.length < k + 4 then .error 5 else openT c.toNat r n k
theorem uwin8_wpk {s : List UInt8} {m : Nat} (hm : s.length ≤ m) : uwin8 (wpk s) m = .ok s := by
  rw [uwin8, uwin_wpk hm]
  show Except.ok _ = _
  rw [List.drop_left' statL_length]
theorem unpL_way {w : Nat} {l : List UInt8} {m : Nat} (hw : w ≤ 3) (hl : l.length ≤ m) (h : l.length ≤ 32768) : unpL w (wayL w l) m = .ok l := by
  have hr := (rpk_len128 _ l (Nat.le_refl _)).1
  match w, hw with
  | 0, _ => rfl
  | 1, _ => exact urun_rpk hl
  | 2, _ => exact uwin8_wpk hl
  | 3, _ =>
    show (match uwin8 (wpk (rpk l)) 33068 with | .ok t => urun t [] m | .error e => .error e) = _
    rw [uwin8_wpk (by omega)]
    exact urun_rpk hl
theorem head_read {w : Nat} {l x : List UInt8} {m : Int} (hw : w ≤ 3) (h : l.length ≤ 32768) (hm : 0 ≤ m) : openL (headL w l ++ x) m = if m < l.length then .error 3 else openT w (numEnc l.length ++ be32 (crc l) ++ x) l.length (numEnc l.length).length := by
  have hc : (UInt8.ofNat w).toNat = w := UInt8.toNat_ofNat_of_lt' (show w < 256 by omega)
  unfold openL headL
  rw [if_neg (by omega), List.cons_append]
  dsimp only
  rw [hc, if_neg (by omega), List.append_assoc, rdN_enc (by omega)]
  dsimp only
  by_cases h1 : m < l.length
  · rw [if_pos (.inl h1), if_pos h1]
  · rw [if_neg (by omega), if_neg h1, if_neg (by simp only [List.length_append, be32_length]; omega)]
/-- what was packed a way is there again -/
theorem open_head {w : Nat} {l : List UInt8} {m : Int} (hw : w ≤ 3) (h : l.length ≤ 32768) (hm : (l.length : Int) ≤ m) : openL (headL w l ++ wayL w l) m = .ok l := by
  rw [head_read hw h (by omega), if_neg (by omega), openT]
  have hd : (numEnc l.length ++ be32 (crc l) ++ wayL w l).drop ((numEnc l.length).length + 4) = wayL w l := List.drop_left' (by simp [be32_length])
  have ht : ((numEnc l.length ++ be32 (crc l) ++ wayL w l).drop (numEnc l.length).length).take 4 = be32 (crc l) := by
    rw [List.append_assoc, List.drop_left' rfl, List.take_left' (be32_length _)]
  rw [hd, unpL_way hw (Nat.le_refl _) h, ht, be4_be32 (crc_lt l)]
  simp
theorem open_pack {l : List UInt8} {m : Int} (h : l.length ≤ 32768) (hm : (l.length : Int) ≤ m) : openL (packL l) m = .ok l := by
  have hb := bestW_is l 3
  rw [packL, hb.1]
  exact open_head hb.2.1 h hm
theorem open_less {l : List UInt8} {m : Int} (h : l.length ≤ 32768) (h0 : 0 ≤ m) (hm : m < l.length) : openL (packL l) m = .error 3 := by
  rw [packL, head_read (bestW_is l 3).2.1 h h0, if_pos hm]
theorem packL_length {l : List UInt8} (h : l.length ≤ 32768) : (packL l).length ≤ l.length + 9 := by
  have hb := (bestW_is l 3).2.2
  have hn := numB_length_le 2 l.length (by omega)
  simp only [packL, headL, List.length_append, List.length_cons, numEnc_length, be32_length]
  omega
end Go.Proofs.Ytbelofikknfoaaa
