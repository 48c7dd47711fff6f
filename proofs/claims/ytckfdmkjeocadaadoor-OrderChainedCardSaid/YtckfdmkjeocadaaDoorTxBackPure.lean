/- Transactions there and back: no program in sight. -/
import Derived.Test.YtckfdmkjeocadaaDoorBackPure
namespace Go.Proofs.YtckfdmkjeocadaaDoor
theorem rdNums_ok {k : Nat} {x : ByteArray} {xs : List ByteArray} {t u : TX} (h4 : k ≠ 4) (h : rdNums k (x :: xs) t = .ok u) : ∃ n, rdNum x = .ok n ∧ rdNums (k + 1) xs (t.upd k n) = .ok u := by
  rw [rdNums, if_neg h4] at h
  split at h
  · simp at h
  · rename_i n hn
    exact ⟨n, hn, h⟩
theorem rdNums_in {k : Nat} {n : Nat} {xs : List ByteArray} {t : TX} (h4 : k ≠ 4) (hn : n ≤ 9223372036854775807) : rdNums k (numS n :: xs) t = rdNums (k + 1) xs (t.upd k n) := by
  rw [rdNums, if_neg h4, rdNum_enc hn]
theorem rdNums_skip {x : ByteArray} {xs : List ByteArray} {t : TX} : rdNums 4 (x :: xs) t = rdNums 5 xs t := by
  rw [rdNums, if_pos rfl]
theorem rdNum_le {s : ByteArray} {n : Nat} (h : rdNum s = .ok n) : n ≤ 9223372036854775807 := by
  unfold rdNum at h
  split at h
  · simp at h
  · rename_i m c hc
    split at h
    · simp at h
      subst h
      exact (rdN_ok hc).2.2.2
    · simp at h
theorem tx_there {t : TX} (hw : t.wf) (hc : t.chk = 0) : rdTx (bstr t.text) = .ok t := by
  have hz := TX.chk_zero hc
  have hA : rdAll (bstr t.text) = .ok t.tparts := rdAll_enc (Nat.le_trans TX.tparts_length (by decide)) (Nat.le_trans (TX.tparts_tot hc hw) (by decide))
  have hB : rdAll (bstr t.body) = .ok t.parts := rdAll_enc (Nat.le_trans TX.parts_length (by decide)) (Nat.le_trans (TX.parts_tot hc) (by decide))
  have hyt : (bstr t.tag).size = 32 := hw.tag
  have hyb : (bstr t.by_).size = 32 := hw.by_
  have e0 : ((t.frm.toNat : Nat) : Int) = t.frm := Int.toNat_of_nonneg (by omega)
  have e1 : ((t.nonce.toNat : Nat) : Int) = t.nonce := Int.toNat_of_nonneg (by omega)
  have e2 : ((t.fee.toNat : Nat) : Int) = t.fee := Int.toNat_of_nonneg (by omega)
  have e3 : ((t.to_.toNat : Nat) : Int) = t.to_ := Int.toNat_of_nonneg (by omega)
  have hlok := hz.2.2.2.1
  cases hl : t.lane with
  | false =>
    unfold TX.lok at hlok
    rw [hl, if_neg (by decide)] at hlok
    have hp : t.parts = [numS t.frm.toNat, numS t.nonce.toNat, numS t.fee.toNat, numS t.to_.toNat, t.data] := by
      rw [TX.parts, hl, if_neg (by decide)]; rfl
    have ht : t.tparts = [bstr t.body, bstr t.tag] := by rw [TX.tparts, hl, if_neg (by decide)]; rfl
    rw [ht] at hA
    rw [rdTx, hA]
    simp only
    rw [if_pos hyt, rdParts, hB]
    simp only
    rw [hp, if_neg (by simp)]
    unfold rdBody
    rw [rdNums_in (by decide) (by omega), rdNums_in (by decide) (by omega), rdNums_in (by decide) (by omega), rdNums_in (by decide) (by omega), rdNums_skip, rdNums]
    simp only
    have hu : ((((TX.start t.data false t.tag).upd 0 t.frm.toNat).upd 1 t.nonce.toNat).upd 2 t.fee.toNat).upd 3 t.to_.toNat = t := by
      obtain ⟨a, b, c, d, e, f, g, h, i, j⟩ := t
      simp only at e0 e1 e2 e3 hl hlok
      simp only [TX.start, TX.upd, e0, e1, e2, e3, hl, hlok]
    have hg : [numS t.frm.toNat, numS t.nonce.toNat, numS t.fee.toNat, numS t.to_.toNat, t.data].getD 4 ByteArray.empty = t.data := rfl
    rw [hg, bstr_toList]
    split
    · rename_i h
      exact absurd (h.symm.trans (show _ = false from rfl)) (by decide)
    · refine (congrArg rdEnd (show _ = t from hu)).trans ?_
      rw [rdEnd, if_pos hc]
  | true =>
    have hlz := TX.lane_zero_ok hlok hl
    have e5 : ((t.round.toNat : Nat) : Int) = t.round := Int.toNat_of_nonneg (by omega)
    have e6 : ((t.turn.toNat : Nat) : Int) = t.turn := Int.toNat_of_nonneg (by omega)
    have hp : t.parts = [numS t.frm.toNat, numS t.nonce.toNat, numS t.fee.toNat, numS t.to_.toNat, t.data, numS t.round.toNat, numS t.turn.toNat] := by
      rw [TX.parts, hl, if_pos rfl]; rfl
    have ht : t.tparts = [bstr t.body, bstr t.tag, bstr t.by_] := by rw [TX.tparts, hl, if_pos rfl]; rfl
    rw [ht] at hA
    rw [rdTx, hA]
    simp only
    rw [if_pos ⟨hyt, hyb⟩, rdParts, hB]
    simp only
    rw [hp, if_neg (by simp)]
    unfold rdBody
    rw [rdNums_in (by decide) (by omega), rdNums_in (by decide) (by omega), rdNums_in (by decide) (by omega), rdNums_in (by decide) (by omega), rdNums_skip, rdNums_in (by decide) (by omega), rdNums_in (by decide) (by omega), rdNums]
    simp only
    have hg : [numS t.frm.toNat, numS t.nonce.toNat, numS t.fee.toNat, numS t.to_.toNat, t.data, numS t.round.toNat, numS t.turn.toNat].getD 4 ByteArray.empty = t.data := rfl
    have hu : setBy ((((((TX.start t.data true t.tag).upd 0 t.frm.toNat).upd (0 + 1) t.nonce.toNat).upd (0 + 1 + 1) t.fee.toNat).upd (0 + 1 + 1 + 1) t.to_.toNat).upd 5 t.round.toNat |>.upd (5 + 1) t.turn.toNat) t.by_ = t := by
      obtain ⟨a, b, c, d, e, f, g, h, i, j⟩ := t
      simp only at e0 e1 e2 e3 e5 e6 hl
      simp only [TX.start, TX.upd, setBy, e0, e1, e2, e3, e5, e6, hl]
    rw [hg, bstr_toList]
    split
    · refine (congrArg rdEnd (show _ = t from hu)).trans ?_
      rw [rdEnd, if_pos hc]
    · rename_i h
      exact absurd (show _ = true from rfl) h
theorem tx_back {s : ByteArray} {t : TX} (h : rdTx s = .ok t) : t.wf ∧ t.chk = 0 ∧ s = bstr t.text := by
  unfold rdTx at h
  split at h
  · simp at h
  · rename_i x y hl
    split at h
    · rename_i hy
      have hs := rdAll_back hl
      unfold rdParts at h
      split at h
      · simp at h
      · rename_i b hb
        have hx := rdAll_back hb
        have hbs := rdAll_sizes hb
        rw [show (if (none : Option ByteArray).isSome = true then 7 else 5) = 5 from rfl] at h
        by_cases hbl : b.length ≠ 5
        · rw [if_pos hbl] at h
          simp at h
        · rw [if_neg hbl] at h
          have hbl : b.length = 5 := Decidable.not_not.1 hbl
          match b, hbl with
          | [b0, b1, b2, b3, d], _ =>
            unfold rdBody at h
            split at h
            · simp at h
            · rename_i u hu
              obtain ⟨n0, h0, hu⟩ := rdNums_ok (by decide) hu
              obtain ⟨n1, h1, hu⟩ := rdNums_ok (by decide) hu
              obtain ⟨n2, h2, hu⟩ := rdNums_ok (by decide) hu
              obtain ⟨n3, h3, hu⟩ := rdNums_ok (by decide) hu
              rw [show 0 + 1 + 1 + 1 + 1 = 4 from rfl, rdNums_skip, rdNums] at hu
              injection hu with hu
              have hlane : u.lane = false := by rw [← hu]; rfl
              rw [hlane, if_neg (by decide)] at h
              unfold rdEnd at h
              split at h
              · rename_i hc
                injection h with h
                subst h
                have hst : (TX.start d false y.data.toList).wf := TX.start_wf (hbs d (by simp)) hy
                have hw : u.wf := by
                  rw [← hu]
                  exact TX.upd_wf (TX.upd_wf (TX.upd_wf (TX.upd_wf hst _ _ (rdNum_le h0)) _ _ (rdNum_le h1)) _ _ (rdNum_le h2)) _ _ (rdNum_le h3)
                refine ⟨hw, hc, ?_⟩
                have hp : u.parts = [b0, b1, b2, b3, d] := by
                  rw [rdNum_back h0, rdNum_back h1, rdNum_back h2, rdNum_back h3, ← hu]
                  rfl
                have hbd : bstr u.body = x := by rw [TX.body, hp, ← hx]
                have htg : bstr u.tag = y := by rw [← hu]; exact bstr_of y
                rw [hs, TX.text, TX.tparts, hlane, if_neg (by decide), List.append_nil, hbd, htg]
              · simp at h
    · simp at h
  · rename_i x y z hl
    split at h
    · rename_i hyz
      obtain ⟨hy, hz⟩ := hyz
      have hs := rdAll_back hl
      unfold rdParts at h
      split at h
      · simp at h
      · rename_i b hb
        have hx := rdAll_back hb
        have hbs := rdAll_sizes hb
        rw [show (if (some z : Option ByteArray).isSome = true then 7 else 5) = 7 from rfl] at h
        by_cases hbl : b.length ≠ 7
        · rw [if_pos hbl] at h
          simp at h
        · rw [if_neg hbl] at h
          have hbl : b.length = 7 := Decidable.not_not.1 hbl
          match b, hbl with
          | [b0, b1, b2, b3, d, b5, b6], _ =>
            unfold rdBody at h
            split at h
            · simp at h
            · rename_i u hu
              obtain ⟨n0, h0, hu⟩ := rdNums_ok (by decide) hu
              obtain ⟨n1, h1, hu⟩ := rdNums_ok (by decide) hu
              obtain ⟨n2, h2, hu⟩ := rdNums_ok (by decide) hu
              obtain ⟨n3, h3, hu⟩ := rdNums_ok (by decide) hu
              rw [show 0 + 1 + 1 + 1 + 1 = 4 from rfl, rdNums_skip] at hu
              obtain ⟨n5, h5, hu⟩ := rdNums_ok (by decide) hu
              obtain ⟨n6, h6, hu⟩ := rdNums_ok (by decide) hu
              rw [rdNums] at hu
              injection hu with hu
              have hlane : u.lane = true := by rw [← hu]; rfl
              rw [if_pos hlane] at h
              unfold rdEnd at h
              split at h
              · rename_i hc
                injection h with h
                subst h
                have hst : (TX.start d true y.data.toList).wf := TX.start_wf (hbs d (by simp)) hy
                have hw : u.wf := by
                  rw [← hu]
                  exact TX.upd_wf (TX.upd_wf (TX.upd_wf (TX.upd_wf (TX.upd_wf (TX.upd_wf hst _ _ (rdNum_le h0)) _ _ (rdNum_le h1)) _ _ (rdNum_le h2)) _ _ (rdNum_le h3)) _ _ (rdNum_le h5)) _ _ (rdNum_le h6)
                refine ⟨⟨hw.frm, hw.nonce, hw.fee, hw.to_, hw.data, hw.round, hw.turn, hz, hw.tag⟩, hc, ?_⟩
                have hp : (setBy u z.data.toList).parts = [b0, b1, b2, b3, d, b5, b6] := by
                  rw [rdNum_back h0, rdNum_back h1, rdNum_back h2, rdNum_back h3, rdNum_back h5, rdNum_back h6, ← hu]
                  rfl
                have hbd : bstr (setBy u z.data.toList).body = x := by rw [TX.body, hp, ← hx]
                have htg : bstr (setBy u z.data.toList).tag = y := by rw [← hu]; exact bstr_of y
                have hbz : bstr (setBy u z.data.toList).by_ = z := bstr_of z
                show s = bstr (setBy u z.data.toList).text
                rw [hs, TX.text, TX.tparts, hbd, htg, hbz, if_pos (show (setBy u z.data.toList).lane = true from hlane)]
                rfl
              · simp at h
    · simp at h
  · simp at h
theorem TX.chk_err (t : TX) (h : t.chk ≠ 0) : (t.chk != 0) = true := by simpa using h
theorem rdNum_err {s : ByteArray} {e : Int} (h : rdNum s = .error e) : e = 5 ∨ e = 6 := by
  unfold rdNum at h
  split at h
  · rename_i hn
    simp at h
    subst h
    exact rdN_err hn
  · split at h
    · simp at h
    · simp at h
      omega
theorem rdNums_err : ∀ (xs : List ByteArray) (k : Nat) (t : TX) (e : Int), rdNums k xs t = .error e → e = 5 ∨ e = 6
  | [], k, t, e, h => by simp [rdNums] at h
  | x :: xs, k, t, e, h => by
    rw [rdNums] at h
    split at h
    · exact rdNums_err xs _ _ _ h
    · split at h
      · rename_i hx
        simp at h
        subst h
        exact rdNum_err hx
      · exact rdNums_err xs _ _ _ h
theorem rdEnd_err {t : TX} {e : Int} (h : rdEnd t = .error e) : (e != 0) = true := by
  unfold rdEnd at h
  split at h
  · simp at h
  · rename_i hc
    injection h with h
    subst h
    simpa using hc
theorem rdParts_err {x y : ByteArray} {z : Option ByteArray} {e : Int} (h : rdParts x y z = .error e) : (e != 0) = true := by
  unfold rdParts at h
  split at h
  · rename_i hx
    injection h with h
    subst h
    exact rdAll_err hx
  · rename_i b hb
    by_cases hq : b.length ≠ (if z.isSome = true then 7 else 5)
    · rw [if_pos hq] at h
      injection h with h
      subst h
      rfl
    · rw [if_neg hq] at h
      unfold rdBody at h
      split at h
      · rename_i hn
        injection h with h
        subst h
        exact ne0_of (rdNums_err _ _ _ _ hn)
      · exact rdEnd_err h
theorem rdTx_err {s : ByteArray} {e : Int} (h : rdTx s = .error e) : (e != 0) = true := by
  unfold rdTx at h
  split at h
  · rename_i hx
    injection h with h
    subst h
    exact rdAll_err hx
  · split at h
    · exact rdParts_err h
    · injection h with h
      subst h
      rfl
  · split at h
    · exact rdParts_err h
    · injection h with h
      subst h
      rfl
  · injection h with h
    subst h
    rfl
end Go.Proofs.YtckfdmkjeocadaaDoor
