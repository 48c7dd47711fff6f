/- disk: its files as a map's datum. -/
import Derived.Test.YtopdhefhagckoaaDPure
import Derived.Maps.RangeWalk
import Derived.Sort.KeysCollected
namespace Go.Proofs.Ytopdhefhagckoaa
open Go.RowKit Go.Maps
section
variable {α : Type} {nm : α → List UInt8} {H : Type} {vl : α → DataW H}
theorem before_is : ∀ a b : List UInt8, bytesBefore a b = decide (a < b)
  | [], [] => by simp [bytesBefore]
  | [], _ :: _ => by simp [bytesBefore]
  | _ :: _, [] => by simp [bytesBefore]
  | x :: a, y :: b => by
    rw [bytesBefore, before_is a b]
    by_cases h : x < y
    · simp [h, List.cons_lt_cons_iff]
    · simp [h, List.cons_lt_cons_iff]
      by_cases h2 : x = y <;> simp [h2]
/-- one file as an entry -/
def ent (nm : α → List UInt8) (vl : α → DataW H) (x : α) : Lit × DataW H := (.string (nm x), vl x)
def datum (nm : α → List UInt8) (vl : α → DataW H) (l : List α) : DataW H := .map (l.map (ent nm vl))
theorem sameKey_str (a b : List UInt8) : (Lit.string a).sameKey (.string b) = decide (a = b) := by
  show (a == b) = _
  by_cases h : a = b
  · subst h; simp
  · simp [h]
theorem filter_same {k : List UInt8} (l : List α) : (l.map (ent nm vl)).filter (fun p => !p.1.sameKey (.string k)) = (dropN nm k l).map (ent nm vl) := by
  unfold dropN
  rw [List.filter_map]
  congr 1
  apply List.filter_congr
  intro x _
  show (!(Lit.string (nm x)).sameKey (.string k)) = _
  rw [sameKey_str]
  by_cases h : nm x = k <;> simp [h]
theorem del_datum (k : List UInt8) (l : List α) : (datum nm vl l).del (.string k) = datum nm vl (dropN nm k l) := by
  show DataW.map _ = DataW.map _
  rw [filter_same]
theorem insert_is {f : α} : ∀ {l : List α}, Rising nm l → DataW.insert (ent nm vl f) ((dropN nm (nm f) l).map (ent nm vl)) = (putN nm f l).map (ent nm vl)
  | [], _ => rfl
  | g :: l, h => by
    have h1 := List.pairwise_cons.1 h
    have ih := insert_is (f := f) h1.2
    have hb : ∀ x, (Lit.string (nm f)).before (.string (nm x)) = decide (nm f < nm x) := fun x => before_is _ _
    have all : ∀ m : List α, (∀ x ∈ m, nm f < nm x) → DataW.insert (ent nm vl f) (m.map (ent nm vl)) = (f :: m).map (ent nm vl) := fun m hm => by
      cases m with
      | nil => rfl
      | cons x m =>
        rw [List.map_cons, DataW.insert]
        show (if (Lit.string (nm f)).before (.string (nm x)) = true then _ else _) = _
        rw [hb, if_pos (by simpa using hm x List.mem_cons_self)]
        rfl
    have none : ∀ m : List α, (∀ x ∈ m, nm f < nm x) → dropN nm (nm f) m = m := fun m hm => by
      refine List.filter_eq_self.2 fun x hx => ?_
      have := hm x hx
      have hne : nm x ≠ nm f := fun e => lt_irrefl (nm f) (by rw [e] at this; exact this)
      simpa using hne
    unfold putN
    by_cases he : nm g = nm f
    · rw [if_pos he]
      have hlt : ∀ x ∈ l, nm f < nm x := fun x hx => by rw [← he]; exact h1.1 x hx
      have hd : dropN nm (nm f) (g :: l) = l := by
        unfold dropN
        rw [List.filter_cons_of_neg (by simpa using he)]
        exact none l hlt
      rw [hd]
      exact all l hlt
    · rw [if_neg he]
      have hd : dropN nm (nm f) (g :: l) = g :: dropN nm (nm f) l := by
        unfold dropN
        rw [List.filter_cons_of_pos (by simpa using he)]
      rw [hd]
      by_cases hlt : nm f < nm g
      · rw [if_pos hlt, none l fun x hx => lt_trans' hlt (h1.1 x hx)]
        exact all (g :: l) fun x hx => by
          rcases List.mem_cons.1 hx with rfl | hx
          · exact hlt
          · exact lt_trans' hlt (h1.1 x hx)
      · rw [if_neg hlt, List.map_cons, List.map_cons, DataW.insert]
        show (if (Lit.string (nm f)).before (.string (nm g)) = true then _ else _) = _
        rw [hb, if_neg (by simpa using hlt), ih]
theorem put_datum {f : α} {l : List α} (h : Rising nm l) : (datum nm vl l).put (.string (nm f)) (vl f) = datum nm vl (putN nm f l) := by
  show DataW.map _ = DataW.map _
  rw [filter_same]
  congr 1
  exact insert_is h
theorem at_datum (k : List UInt8) (z : DataW H) (l : List α) : (datum nm vl l).atKey (.string k) z = match findN nm k l with | some f => vl f | none => z := by
  show (match (l.map (ent nm vl)).find? (fun p => p.1.sameKey (.string k)) with | some p => p.2 | none => z) = _
  have hf : (l.map (ent nm vl)).find? (fun p => p.1.sameKey (.string k)) = (findN nm k l).map (ent nm vl) := by
    rw [List.find?_map]
    congr 1
    unfold findN
    congr 1
    funext x
    exact sameKey_str _ _
  rw [hf]
  cases findN nm k l <;> rfl
theorem size_datum (l : List α) : Maps.size (datum nm vl l) = l.length := by
  show (l.map (ent nm vl)).length = _
  simp
theorem keys_datum (l : List α) : strKeys (datum nm vl l) = l.map nm := by
  show ((l.map (ent nm vl)).map _) = _
  rw [List.map_map]
  rfl
end
end Go.Proofs.Ytopdhefhagckoaa
