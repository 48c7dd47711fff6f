/- window: what Unpack computes, over lists of bytes. -/
import Derived.Test.YtbelofikknfoaaaCUnrun
namespace Go.Proofs.Ytbelofikknfoaaa
open Go.RowKit
/-- bytes of what is known, so far back, laid again one after the other -/
def cpy : Nat → Nat → List UInt8 → List UInt8
  | 0, _, k => k
  | n + 1, d, k => cpy n d (k ++ [k.getD (k.length - d - 1) 0])
theorem cpy_length : ∀ (n d : Nat) (k : List UInt8), (cpy n d k).length = k.length + n
  | 0, _, k => by simp [cpy]
  | n + 1, d, k => by
    rw [cpy, cpy_length]
    simp
    omega
/-- what is made of what is left, behind what is known (68 bytes of it ahead of all) -/
def unwin : Nat → List UInt8 → List UInt8 → Nat → Except Int (List UInt8)
  | 0, _, k, _ => .ok k
  | _, [], k, _ => .ok k
  | f + 1, c :: r, k, m =>
    if c.toNat = 255 then .error 6
    else if c.toNat < 128 then
      if r.length < c.toNat + 1 then .error 5 else if m < k.length - 68 + (c.toNat + 1) then .error 3 else unwin f (r.drop (c.toNat + 1)) (k ++ r.take (c.toNat + 1)) m
    else match r with
      | x :: y :: r' =>
        if 32768 ≤ x.toNat * 256 + y.toNat ∨ k.length < x.toNat * 256 + y.toNat + 1 then .error 6
        else if m < k.length - 68 + (c.toNat - 124) then .error 3
        else unwin f r' (cpy (c.toNat - 124) (x.toNat * 256 + y.toNat) k) m
      | _ => .error 5
theorem unwin_fuel : ∀ (f g : Nat) (l k : List UInt8) (m : Nat), l.length ≤ f → l.length ≤ g → unwin f l k m = unwin g l k m
  | f, g, [], k, m, _, _ => by cases f <;> cases g <;> rfl
  | 0, _, c :: l, k, m, h, _ => by simp at h
  | _, 0, c :: l, k, m, _, h => by simp at h
  | f + 1, g + 1, c :: l, k, m, hf, hg => by
    simp only [List.length_cons] at hf hg
    unfold unwin
    by_cases h5 : c.toNat = 255
    · rw [if_pos h5, if_pos h5]
    · rw [if_neg h5, if_neg h5]
      by_cases h : c.toNat < 128
      · rw [if_pos h, if_pos h, unwin_fuel f g (l.drop (c.toNat + 1)) _ m (by rw [List.length_drop]; omega) (by rw [List.length_drop]; omega)]
      · rw [if_neg h, if_neg h]
        match l with
        | [] => rfl
        | [x] => rfl
        | x :: y :: r =>
          simp only [List.length_cons] at hf hg
          dsimp only
          rw [unwin_fuel f g r _ m (by omega) (by omega)]
def uwin (l k : List UInt8) (m : Nat) : Except Int (List UInt8) := unwin l.length l k m
theorem uwin_nil (k : List UInt8) (m : Nat) : uwin [] k m = .ok k := rfl
theorem uwin_255 {c : UInt8} {r k : List UInt8} {m : Nat} (h : c.toNat = 255) : uwin (c :: r) k m = .error 6 := by
  show unwin (r.length + 1) (c :: r) k m = _
  unfold unwin
  rw [if_pos h]
theorem uwin_lit {c : UInt8} {r k : List UInt8} {m : Nat} (h : c.toNat < 128) : uwin (c :: r) k m = if r.length < c.toNat + 1 then .error 5 else if m < k.length - 68 + (c.toNat + 1) then .error 3 else uwin (r.drop (c.toNat + 1)) (k ++ r.take (c.toNat + 1)) m := by
  show unwin (r.length + 1) (c :: r) k m = _
  unfold unwin
  rw [if_neg (by omega), if_pos h, uwin, unwin_fuel r.length _ (r.drop (c.toNat + 1)) _ m (by rw [List.length_drop]; omega) (Nat.le_refl _)]
theorem uwin_short {c : UInt8} {r k : List UInt8} {m : Nat} (h : ¬ c.toNat < 128) (h5 : c.toNat ≠ 255) (hr : r.length < 2) : uwin (c :: r) k m = .error 5 := by
  show unwin (r.length + 1) (c :: r) k m = _
  unfold unwin
  rw [if_neg h5, if_neg h]
  match r with
  | [] => rfl
  | [x] => rfl
  | x :: y :: r => simp only [List.length_cons] at hr; omega
theorem uwin_match {c x y : UInt8} {r k : List UInt8} {m : Nat} (h : ¬ c.toNat < 128) (h5 : c.toNat ≠ 255) : uwin (c :: x :: y :: r) k m = if 32768 ≤ x.toNat * 256 + y.toNat ∨ k.length < x.toNat * 256 + y.toNat + 1 then .error 6 else if m < k.length - 68 + (c.toNat - 124) then .error 3 else uwin r (cpy (c.toNat - 124) (x.toNat * 256 + y.toNat) k) m := by
  show unwin (r.length + 3) (c :: x :: y :: r) k m = _
  unfold unwin
  rw [if_neg h5, if_neg h]
  dsimp only
  rw [uwin, unwin_fuel (r.length + 2) r.length r _ m (by omega) (Nat.le_refl _)]
end Go.Proofs.Ytbelofikknfoaaa
