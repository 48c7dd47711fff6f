/- window: the places that are noted, and the longest match with one of them. -/
import Derived.Test.YtbelofikknfoaaaCLong
namespace Go.Proofs.Ytbelofikknfoaaa
open Go.RowKit
/-- where four bytes stand, ahead of a place -/
def occ (L : List UInt8) : Nat → List UInt8 → List Nat
  | 0, _ => []
  | t + 1, k => if (L.drop t).take 4 = k then occ L t k ++ [t] else occ L t k
theorem occ_hit {L : List UInt8} {t : Nat} {k : List UInt8} (h : (L.drop t).take 4 = k) : occ L (t + 1) k = occ L t k ++ [t] := by rw [occ, if_pos h]
theorem occ_miss {L : List UInt8} {t : Nat} {k : List UInt8} (h : (L.drop t).take 4 ≠ k) : occ L (t + 1) k = occ L t k := by rw [occ, if_neg h]
theorem occ_lt (L : List UInt8) (k : List UInt8) : ∀ t, ∀ z ∈ occ L t k, z < t
  | 0, z, h => by simp [occ] at h
  | t + 1, z, h => by
    by_cases hk : (L.drop t).take 4 = k
    · rw [occ_hit hk, List.mem_append] at h
      rcases h with h | h
      · have := occ_lt L k t z h; omega
      · simp at h; omega
    · rw [occ_miss hk] at h
      have := occ_lt L k t z h; omega
theorem occ_length (L : List UInt8) (k : List UInt8) : ∀ t, (occ L t k).length ≤ t
  | 0 => by simp [occ]
  | t + 1 => by
    have := occ_length L k t
    by_cases hk : (L.drop t).take 4 = k
    · rw [occ_hit hk, List.length_append]; simp; omega
    · rw [occ_miss hk]; omega
theorem occ_grow (L : List UInt8) (k : List UInt8) : ∀ (d t : Nat), ∃ r, occ L (t + d) k = occ L t k ++ r
  | 0, t => ⟨[], by simp⟩
  | d + 1, t => by
    obtain ⟨r, hr⟩ := occ_grow L k d t
    by_cases hk : (L.drop (t + d)).take 4 = k
    · exact ⟨r ++ [t + d], by rw [← Nat.add_assoc, occ_hit hk, hr, List.append_assoc]⟩
    · exact ⟨r, by rw [← Nat.add_assoc, occ_miss hk, hr]⟩
theorem occ_at {L : List UInt8} {t a : Nat} {k : List UInt8} (h : (L.drop t).take 4 = k) (ha : t + 1 ≤ a) : (occ L a k).getD (occ L t k).length 0 = t := by
  obtain ⟨r, hr⟩ := occ_grow L k (a - (t + 1)) (t + 1)
  rw [show t + 1 + (a - (t + 1)) = a by omega, occ_hit h] at hr
  rw [hr]
  simp [List.getD]
theorem eqN_four {k : Nat} {l r : List UInt8} (hl : 4 ≤ l.length) (hr : 4 ≤ r.length) : 4 ≤ eqN (k + 4) l r ↔ l.take 4 = r.take 4 := by
  match l, hl with
  | x0 :: x1 :: x2 :: x3 :: l, _ =>
    match r, hr with
    | y0 :: y1 :: y2 :: y3 :: r, _ =>
      simp only [eqN, List.take_succ_cons, List.take_zero, List.cons.injEq, and_true]
      by_cases h0 : x0 = y0
      · by_cases h1 : x1 = y1
        · by_cases h2 : x2 = y2
          · by_cases h3 : x3 = y3
            · simp only [h0, h1, h2, h3, if_true, and_true, iff_true]; omega
            · simp [h0, h1, h2, h3]
          · simp [h0, h1, h2]
        · simp [h0, h1]
      · simp [h0]
theorem mch_four {K : ByteArray} {a p : Nat} (ha : a + 4 ≤ K.size) (hp : p ≤ a) : 4 ≤ mch K a p ↔ (K.data.toList.drop p).take 4 = (K.data.toList.drop a).take 4 := by
  have hl : K.data.toList.length = K.size := rfl
  have h := eqN_four (k := 126) (l := K.data.toList.drop a) (r := K.data.toList.drop p) (by rw [List.length_drop, hl]; omega) (by rw [List.length_drop, hl]; omega)
  exact h.trans ⟨fun h => h.symm, fun h => h.symm⟩
/-- no match is longer than this: the nearest one that is so long stays the best -/
theorem bstD_sat {K : ByteArray} {a : Nat} (ha : a ≤ K.size) {d : Nat} (h : (bstD K a d).1 = min 130 (K.size - a)) : ∀ e, bstD K a (d + e) = bstD K a d
  | 0 => rfl
  | e + 1 => by
    have h2 := mch_le ha (a - (d + e + 1))
    rw [← Nat.add_assoc, bstD, bstD_sat ha h e, if_neg (by omega)]
/-- the two searches agree as far as it matters -/
def Ali (x y : Nat × Nat) : Prop := (x.1 < 4 ∧ y = (0, 0)) ∨ (4 ≤ x.1 ∧ y = x)
theorem lng_bst {K : ByteArray} {a : Nat} (ha : a + 4 ≤ K.size) (zs : List Nat) (hzs : zs = occ K.data.toList a ((K.data.toList.drop a).take 4)) : ∀ (t : Nat) (n b : Nat), t ≤ a → Ali (bstD K a (min (a - t) 32768)) (n, b) → Ali (bst K a) (lng K a zs (occ K.data.toList t ((K.data.toList.drop a).take 4)).length n b)
  | 0, n, b, _, h => h
  | t + 1, n, b, ht, h => by
    obtain ⟨key, hkey⟩ : ∃ key, key = (K.data.toList.drop a).take 4 := ⟨_, rfl⟩
    have hm4 := mch_four ha (show t ≤ a by omega)
    rw [← hkey] at hzs hm4 ⊢
    have IH := fun n b => lng_bst ha zs (by rw [hzs, hkey]) t n b (by omega)
    rw [← hkey] at IH
    have hsat : ∀ d, d ≤ min a 32768 → (bstD K a d).1 = min 130 (K.size - a) → bst K a = bstD K a d := fun d hd he => by
      have := bstD_sat (show a ≤ K.size by omega) he (min a 32768 - d)
      rw [show d + (min a 32768 - d) = min a 32768 by omega] at this
      exact this
    have hstep : a - t ≤ 32768 → bstD K a (min (a - t) 32768) = if (bstD K a (min (a - (t + 1)) 32768)).1 < mch K a t then (mch K a t, a - t) else bstD K a (min (a - (t + 1)) 32768) := fun hd => by
      rw [show min (a - t) 32768 = min (a - (t + 1)) 32768 + 1 by omega, bstD, show a - (min (a - (t + 1)) 32768 + 1) = t by omega, show min (a - (t + 1)) 32768 + 1 = a - t by omega]
    by_cases hk : (K.data.toList.drop t).take 4 = key
    · have hm := hm4.2 hk
      rw [occ_hit hk, List.length_append, List.length_singleton, lng, show zs.getD (occ K.data.toList t key).length 0 = t by rw [hzs]; exact occ_at hk ht]
      by_cases hfar : 32768 < a - t
      · rw [if_pos hfar]
        have : bst K a = bstD K a (min (a - (t + 1)) 32768) := by rw [bst]; congr 1; omega
        rw [this]
        exact h
      · rw [if_neg hfar]
        have hst := hstep (by omega)
        obtain ⟨x, hx⟩ : ∃ x, x = bstD K a (min (a - (t + 1)) 32768) := ⟨_, rfl⟩
        rw [← hx] at hst h
        by_cases hn : n < mch K a t
        · rw [if_pos hn]
          have hx1 : x.1 < mch K a t := by
            rcases h with ⟨h1, h2⟩ | ⟨h1, h2⟩
            · omega
            · rw [← h2]; exact hn
          rw [if_pos hx1] at hst
          by_cases he : mch K a t = min 130 (K.size - a)
          · rw [if_pos he, hsat (min (a - t) 32768) (by omega) (by rw [hst]; exact he), hst]
            exact .inr ⟨hm, rfl⟩
          · rw [if_neg he]
            exact IH _ _ (by rw [hst]; exact .inr ⟨hm, rfl⟩)
        · rw [if_neg hn]
          have hx4 : 4 ≤ x.1 ∧ (n, b) = x := by
            rcases h with ⟨h1, h2⟩ | h2
            · have := (Prod.mk.inj h2).1; omega
            · exact h2
          have hxn : x.1 = n := by rw [← hx4.2]
          rw [if_neg (by omega)] at hst
          by_cases he : n = min 130 (K.size - a)
          · rw [if_pos he, hsat (min (a - t) 32768) (by omega) (by rw [hst, hxn]; exact he), hst]
            exact .inr hx4
          · rw [if_neg he]
            exact IH _ _ (by rw [hst]; exact .inr hx4)
    · have hm : mch K a t < 4 := Nat.lt_of_not_le fun h4 => hk (hm4.1 h4)
      rw [occ_miss hk]
      refine IH _ _ ?_
      by_cases hfar : 32768 < a - t
      · rw [show min (a - t) 32768 = min (a - (t + 1)) 32768 by omega]
        exact h
      · rw [hstep (by omega)]
        split
        · rename_i hlt
          rcases h with ⟨h1, h2⟩ | ⟨h1, h2⟩
          · exact .inl ⟨by simp only; exact hm, h2⟩
          · omega
        · exact h
/-- what longest tells of the places that are noted -/
theorem lng_is {K : ByteArray} {a : Nat} (ha : a + 4 ≤ K.size) (zs : List Nat) (hzs : zs = occ K.data.toList a ((K.data.toList.drop a).take 4)) : Ali (bst K a) (lng K a zs zs.length 0 0) := by
  have h := lng_bst ha zs hzs a 0 0 (Nat.le_refl _) (.inl ⟨by rw [Nat.sub_self]; simp [bstD], rfl⟩)
  rw [← hzs] at h
  exact h
end Go.Proofs.Ytbelofikknfoaaa
