/- runs: what Unpack computes, over lists of bytes. -/
import Derived.Test.YtbelofikknfoaaaCRuns
import Derived.Test.YtbelofikknfoaaaBase
namespace Go.Proofs.Ytbelofikknfoaaa
open Go.RowKit
def unrun : Nat → List UInt8 → List UInt8 → Nat → Except Int (List UInt8)
  | 0, _, o, _ => .ok o
  | _, [], o, _ => .ok o
  | f + 1, c :: r, o, m =>
    if c.toNat < 128 then
      if r.length < c.toNat + 1 then .error 5 else if m < o.length + (c.toNat + 1) then .error 3 else unrun f (r.drop (c.toNat + 1)) (o ++ r.take (c.toNat + 1)) m
    else match r with
      | [] => .error 5
      | x :: r' => if m < o.length + (c.toNat - 125) then .error 3 else unrun f r' (o ++ List.replicate (c.toNat - 125) x) m
theorem unrun_fuel : ∀ (f g : Nat) (l o : List UInt8) (m : Nat), l.length ≤ f → l.length ≤ g → unrun f l o m = unrun g l o m
  | f, g, [], o, m, _, _ => by cases f <;> cases g <;> rfl
  | 0, _, c :: l, _, _, h, _ => by simp at h
  | _, 0, c :: l, _, _, _, h => by simp at h
  | f + 1, g + 1, c :: l, o, m, hf, hg => by
    simp only [List.length_cons] at hf hg
    unfold unrun
    by_cases h : c.toNat < 128
    · rw [if_pos h, if_pos h, unrun_fuel f g (l.drop (c.toNat + 1)) _ m (by rw [List.length_drop]; omega) (by rw [List.length_drop]; omega)]
    · rw [if_neg h, if_neg h]
      cases l with
      | nil => rfl
      | cons x r => 
        simp only [List.length_cons] at hf hg
        dsimp only
        rw [unrun_fuel f g r _ m (by omega) (by omega)]
/-- what runs.Unpack makes of what is left, behind so many bytes -/
def urun (l o : List UInt8) (m : Nat) : Except Int (List UInt8) := unrun l.length l o m
theorem urun_nil (o : List UInt8) (m : Nat) : urun [] o m = .ok o := rfl
theorem urun_lit {c : UInt8} {r o : List UInt8} {m : Nat} (h : c.toNat < 128) : urun (c :: r) o m = if r.length < c.toNat + 1 then .error 5 else if m < o.length + (c.toNat + 1) then .error 3 else urun (r.drop (c.toNat + 1)) (o ++ r.take (c.toNat + 1)) m := by
  show unrun (r.length + 1) (c :: r) o m = _
  unfold unrun
  rw [if_pos h, urun, unrun_fuel r.length _ (r.drop (c.toNat + 1)) _ m (by rw [List.length_drop]; omega) (Nat.le_refl _)]
theorem urun_end {c : UInt8} {o : List UInt8} {m : Nat} (h : ¬ c.toNat < 128) : urun [c] o m = .error 5 := by
  show unrun 1 [c] o m = _
  unfold unrun
  rw [if_neg h]
theorem urun_run {c x : UInt8} {r o : List UInt8} {m : Nat} (h : ¬ c.toNat < 128) : urun (c :: x :: r) o m = if m < o.length + (c.toNat - 125) then .error 3 else urun r (o ++ List.replicate (c.toNat - 125) x) m := by
  show unrun (r.length + 2) (c :: x :: r) o m = _
  unfold unrun
  rw [if_neg h]
  dsimp only
  rw [urun, unrun_fuel (r.length + 1) r.length r _ m (by omega) (Nat.le_refl _)]
/-- what comes back -/
def unV (r : Except Int (List UInt8)) : Value :=
  match r with
  | .ok o => .tuple #[.string (bstr o), .int .i64 0]
  | .error e => .tuple #[.string ByteArray.empty, .int .i64 e]
section
variable {s : ByteArray} {a : Nat} {O : List UInt8} {m : Nat}
theorem cut_at (h : a < s.size) : s.data.toList.drop a = s[a]'h :: s.data.toList.drop (a + 1) := by
  have hl : s.data.toList.length = s.size := rfl
  rw [List.drop_eq_getElem_cons (show a < s.data.toList.length by rw [hl]; exact h)]
  rfl
theorem left_at (a : Nat) : (s.data.toList.drop a).length = s.size - a := by
  have hl : s.data.toList.length = s.size := rfl
  rw [List.length_drop, hl]
theorem st_end : urun (s.data.toList.drop s.size) O m = .ok O := by
  have hl : s.data.toList.length = s.size := rfl
  rw [← hl, List.drop_length, urun_nil]
theorem st_short (h : a < s.size) (hc : (s[a]'h).toNat < 128) (hs : s.size - (a + 1) < (s[a]'h).toNat + 1) : urun (s.data.toList.drop a) O m = .error 5 := by
  rw [cut_at h, urun_lit hc, if_pos (by rw [left_at]; exact hs)]
theorem st_big (h : a < s.size) (hc : (s[a]'h).toNat < 128) (hs : ¬ s.size - (a + 1) < (s[a]'h).toNat + 1) (hb : m < O.length + ((s[a]'h).toNat + 1)) : urun (s.data.toList.drop a) O m = .error 3 := by
  rw [cut_at h, urun_lit hc, if_neg (by rw [left_at]; exact hs), if_pos hb]
theorem st_lit (h : a < s.size) (hc : (s[a]'h).toNat < 128) (hs : ¬ s.size - (a + 1) < (s[a]'h).toNat + 1) (hb : ¬ m < O.length + ((s[a]'h).toNat + 1)) : urun (s.data.toList.drop a) O m = urun (s.data.toList.drop (a + 1 + ((s[a]'h).toNat + 1))) (O ++ (s.data.toList.drop (a + 1)).take ((s[a]'h).toNat + 1)) m := by
  rw [cut_at h, urun_lit hc, if_neg (by rw [left_at]; exact hs), if_neg hb, List.drop_drop]
theorem st_short2 (h : a < s.size) (hc : ¬ (s[a]'h).toNat < 128) (hs : s.size ≤ a + 1) : urun (s.data.toList.drop a) O m = .error 5 := by
  have hl : s.data.toList.length = s.size := rfl
  rw [cut_at h, List.drop_of_length_le (by rw [hl]; exact hs), urun_end hc]
theorem st_big2 (h : a < s.size) (hc : ¬ (s[a]'h).toNat < 128) (hs : a + 1 < s.size) (hb : m < O.length + ((s[a]'h).toNat - 125)) : urun (s.data.toList.drop a) O m = .error 3 := by
  rw [cut_at h, cut_at hs, urun_run hc, if_pos hb]
theorem st_run (h : a < s.size) (hc : ¬ (s[a]'h).toNat < 128) (hs : a + 1 < s.size) (hb : ¬ m < O.length + ((s[a]'h).toNat - 125)) : urun (s.data.toList.drop a) O m = urun (s.data.toList.drop (a + 2)) (O ++ List.replicate ((s[a]'h).toNat - 125) (s[a + 1]'hs)) m := by
  rw [cut_at h, cut_at hs, urun_run hc, if_neg hb]
end
end Go.Proofs.Ytbelofikknfoaaa
