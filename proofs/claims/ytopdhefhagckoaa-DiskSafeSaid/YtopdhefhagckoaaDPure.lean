/- disk: what its calls compute, over a list of files by rising names. -/
import Derived.WalkKit
import Derived.Lib.Hide
namespace Go.Proofs.Ytopdhefhagckoaa
open Go.RowKit
section
variable {α β : Type} {nm : α → List UInt8}
/-- one in its place, among those with rising names -/
def putN (nm : α → List UInt8) (f : α) : List α → List α
  | [] => [f]
  | g :: l => if nm g = nm f then f :: l else if nm f < nm g then f :: g :: l else g :: putN nm f l
def dropN (nm : α → List UInt8) (k : List UInt8) (l : List α) : List α := l.filter fun f => decide (nm f ≠ k)
def findN (nm : α → List UInt8) (k : List UInt8) (l : List α) : Option α := l.find? fun f => decide (nm f = k)
def Rising (nm : α → List UInt8) (l : List α) : Prop := l.Pairwise fun f g => nm f < nm g
theorem lt_irrefl (a : List UInt8) : ¬ a < a := List.lt_irrefl a
theorem lt_trans' {a b c : List UInt8} (h : a < b) (k : b < c) : a < c := List.lt_trans h k
theorem lt_or (a b : List UInt8) : a < b ∨ a = b ∨ b < a := by
  by_cases h1 : a < b
  · exact .inl h1
  · by_cases h2 : b < a
    · exact .inr (.inr h2)
    · exact .inr (.inl (List.le_antisymm (List.not_lt.1 h2) (List.not_lt.1 h1)))
theorem mem_putN {f x : α} : ∀ {l : List α}, x ∈ putN nm f l → x = f ∨ x ∈ l
  | [], h => by simp [putN] at h; exact .inl h
  | g :: l, h => by
    unfold putN at h
    split at h
    · rcases List.mem_cons.1 h with h | h
      · exact .inl h
      · exact .inr (List.mem_cons_of_mem _ h)
    · split at h
      · rcases List.mem_cons.1 h with h | h
        · exact .inl h
        · exact .inr h
      · rcases List.mem_cons.1 h with h | h
        · exact .inr (by rw [h]; exact List.mem_cons_self)
        · rcases mem_putN h with h | h
          · exact .inl h
          · exact .inr (List.mem_cons_of_mem _ h)
theorem Rising.put {f : α} : ∀ {l : List α}, Rising nm l → Rising nm (putN nm f l)
  | [], _ => by simp [putN, Rising]
  | g :: l, h => by
    have h1 := List.pairwise_cons.1 h
    unfold putN
    split
    · rename_i he
      exact List.pairwise_cons.2 ⟨fun x hx => by rw [← he]; exact h1.1 x hx, h1.2⟩
    · split
      · rename_i hlt
        refine List.pairwise_cons.2 ⟨fun x hx => ?_, h⟩
        rcases List.mem_cons.1 hx with rfl | hx
        · exact hlt
        · exact lt_trans' hlt (h1.1 x hx)
      · rename_i he hlt
        refine List.pairwise_cons.2 ⟨fun x hx => ?_, Rising.put h1.2⟩
        rcases mem_putN hx with rfl | hx
        · rcases lt_or (nm g) (nm x) with h | h | h
          · exact h
          · exact absurd h he
          · exact absurd h hlt
        · exact h1.1 x hx
theorem Rising.drop {k : List UInt8} {l : List α} (h : Rising nm l) : Rising nm (dropN nm k l) := List.Pairwise.sublist List.filter_sublist h
theorem putN_map {nm' : β → List UInt8} {g : α → β} (hg : ∀ x, nm' (g x) = nm x) (f : α) : ∀ l : List α, (putN nm f l).map g = putN nm' (g f) (l.map g)
  | [] => rfl
  | x :: l => by
    simp only [putN, List.map_cons, hg]
    split
    · rfl
    · split
      · rfl
      · rw [List.map_cons, putN_map hg f l]
theorem dropN_map {nm' : β → List UInt8} {g : α → β} (hg : ∀ x, nm' (g x) = nm x) (k : List UInt8) (l : List α) : (dropN nm k l).map g = dropN nm' k (l.map g) := by
  unfold dropN
  rw [List.filter_map]
  congr 1
  apply List.filter_congr
  intro x _
  simp [hg]
theorem findN_map {nm' : β → List UInt8} {g : α → β} (hg : ∀ x, nm' (g x) = nm x) (k : List UInt8) (l : List α) : findN nm' k (l.map g) = (findN nm k l).map g := by
  unfold findN
  rw [List.find?_map]
  congr 2
  funext x
  simp [hg]
theorem findN_some {k : List UInt8} {l : List α} {f : α} (h : findN nm k l = some f) : f ∈ l ∧ nm f = k := by
  have h1 := List.find?_some h
  exact ⟨List.mem_of_find?_eq_some h, by simpa using h1⟩
theorem findN_none {k : List UInt8} {l : List α} (h : findN nm k l = none) : ∀ f ∈ l, nm f ≠ k := by
  intro f hf
  have := List.find?_eq_none.1 h f hf
  simpa using this
theorem find_put_same (f : α) : ∀ l : List α, findN nm (nm f) (putN nm f l) = some f
  | [] => by simp [findN, putN]
  | g :: l => by
    unfold putN
    split
    · simp [findN]
    · split
      · simp [findN]
      · rename_i he _
        unfold findN
        rw [List.find?_cons_of_neg (by simpa using he)]
        exact find_put_same f l
theorem find_put_other {f : α} {k : List UInt8} (hk : nm f ≠ k) : ∀ l : List α, findN nm k (putN nm f l) = findN nm k l
  | [] => by simp [findN, putN, hk]
  | g :: l => by
    unfold putN
    split
    · rename_i he
      unfold findN
      rw [List.find?_cons_of_neg (by simpa using hk), List.find?_cons_of_neg (by simpa [he] using hk)]
    · split
      · unfold findN
        rw [List.find?_cons_of_neg (by simpa using hk)]
      · have ih := find_put_other hk l
        unfold findN at ih ⊢
        by_cases hg : nm g = k
        · rw [List.find?_cons_of_pos (by simpa using hg), List.find?_cons_of_pos (by simpa using hg)]
        · rw [List.find?_cons_of_neg (by simpa using hg), List.find?_cons_of_neg (by simpa using hg)]
          exact ih
theorem find_drop_same (k : List UInt8) (l : List α) : findN nm k (dropN nm k l) = none := by
  refine List.find?_eq_none.2 fun f hf => ?_
  have := (List.mem_filter.1 hf).2
  simpa using this
theorem find_drop_other {k k' : List UInt8} (hk : k ≠ k') : ∀ l : List α, findN nm k' (dropN nm k l) = findN nm k' l
  | [] => rfl
  | g :: l => by
    have ih := find_drop_other hk l
    unfold dropN findN at ih ⊢
    by_cases hg : nm g = k
    · rw [List.filter_cons_of_neg (by simpa using hg), List.find?_cons_of_neg (by simp [hg, hk])]
      exact ih
    · rw [List.filter_cons_of_pos (by simpa using hg)]
      by_cases hg2 : nm g = k'
      · rw [List.find?_cons_of_pos (by simpa using hg2), List.find?_cons_of_pos (by simpa using hg2)]
      · rw [List.find?_cons_of_neg (by simpa using hg2), List.find?_cons_of_neg (by simpa using hg2)]
        exact ih
theorem putN_replace {f : α} : ∀ {l : List α}, Rising nm l → (∃ g ∈ l, nm g = nm f) → putN nm f l = l.map (fun g => if nm g = nm f then f else g)
  | [], _, ⟨_, h, _⟩ => by cases h
  | g :: l, h, ⟨x, hx, he⟩ => by
    have h1 := List.pairwise_cons.1 h
    unfold putN
    by_cases hg : nm g = nm f
    · rw [if_pos hg, List.map_cons, if_pos hg]
      congr 1
      symm
      refine (List.map_congr_left (g := id) fun y hy => ?_).trans (List.map_id _)
      have hne : nm y ≠ nm f := fun e => lt_irrefl (nm g) (by have := h1.1 y hy; rw [e, ← hg] at this; exact this)
      rw [if_neg hne]
      rfl
    · have hxl : x ∈ l := by
        rcases List.mem_cons.1 hx with rfl | hx
        · exact absurd he hg
        · exact hx
      have hlt : ¬ nm f < nm g := fun h2 => lt_irrefl (nm g) (lt_trans' (h1.1 x hxl) (by rw [he]; exact h2))
      rw [if_neg hg, if_neg hlt, List.map_cons, if_neg hg, putN_replace h1.2 ⟨x, hxl, he⟩]
theorem mem_putN' {f x : α} : ∀ {l : List α}, Rising nm l → x ∈ putN nm f l → x = f ∨ (x ∈ l ∧ nm x ≠ nm f)
  | [], _, h => by simp [putN] at h; exact .inl h
  | g :: l, hr, h => by
    have h1 := List.pairwise_cons.1 hr
    have after : nm g = nm f ∨ nm f < nm g → x ∈ l → nm x ≠ nm f := fun hc hx e => by
      have h2 := h1.1 x hx
      rw [e] at h2
      rcases hc with hc | hc
      · rw [hc] at h2; exact lt_irrefl _ h2
      · exact lt_irrefl _ (lt_trans' h2 hc)
    unfold putN at h
    split at h
    · rename_i he
      rcases List.mem_cons.1 h with h | h
      · exact .inl h
      · exact .inr ⟨List.mem_cons_of_mem _ h, after (.inl he) h⟩
    · rename_i hne
      split at h
      · rename_i hlt
        rcases List.mem_cons.1 h with h | h
        · exact .inl h
        · refine .inr ⟨h, ?_⟩
          rcases List.mem_cons.1 h with rfl | h
          · exact hne
          · exact after (.inr hlt) h
      · rcases List.mem_cons.1 h with h | h
        · exact .inr ⟨by rw [h]; exact List.mem_cons_self, by rw [h]; exact hne⟩
        · rcases mem_putN' h1.2 h with h | h
          · exact .inl h
          · exact .inr ⟨List.mem_cons_of_mem _ h.1, h.2⟩
theorem putN_putN {f g : α} (h : nm f = nm g) : ∀ l : List α, putN nm f (putN nm g l) = putN nm f l
  | [] => by simp [putN, h]
  | x :: l => by
    rw [putN, putN, h]
    split
    · rw [putN, if_pos h.symm]
    · split
      · rw [putN, if_pos h.symm]
      · rename_i h1 h2
        rw [putN, h, if_neg h1, if_neg h2, putN_putN h l]
/-- the reference lays one in its place so -/
def rputN (nm : α → List UInt8) (f : α) : Bool → List α → List α
  | done, [] => if done then [] else [f]
  | done, g :: l => (if done = false ∧ ¬ nm g < nm f then [f] else []) ++ ((if nm g ≠ nm f then [g] else []) ++ rputN nm f (done || decide (¬ nm g < nm f)) l)
theorem rputN_done {f : α} : ∀ {l : List α}, (∀ g ∈ l, nm f < nm g) → rputN nm f true l = l
  | [], _ => rfl
  | g :: l, h => by
    have hg := h g List.mem_cons_self
    have hne : nm g ≠ nm f := fun e => lt_irrefl (nm f) (by rw [e] at hg; exact hg)
    rw [rputN, if_neg (by simp), if_pos hne, Bool.true_or, rputN_done fun x hx => h x (List.mem_cons_of_mem _ hx)]
    rfl
theorem rputN_is {f : α} : ∀ {l : List α}, Rising nm l → rputN nm f false l = putN nm f l
  | [], _ => rfl
  | g :: l, h => by
    have h1 := List.pairwise_cons.1 h
    unfold rputN putN
    by_cases he : nm g = nm f
    · have hlt : ¬ nm g < nm f := by rw [he]; exact lt_irrefl _
      rw [if_pos ⟨rfl, hlt⟩, if_neg (by simpa using he), if_pos he, Bool.false_or, decide_eq_true hlt, rputN_done fun x hx => by rw [← he]; exact h1.1 x hx]
      rfl
    · by_cases hlt : nm g < nm f
      · have hn : ¬ nm f < nm g := fun h2 => lt_irrefl _ (lt_trans' hlt h2)
        rw [if_neg (by simp [hlt]), if_pos he, if_neg he, if_neg hn, Bool.false_or, decide_eq_false (by simpa using hlt), rputN_is h1.2]
        rfl
      · have h2 : nm f < nm g := by
          rcases lt_or (nm f) (nm g) with h | h | h
          · exact h
          · exact absurd h.symm he
          · exact absurd h hlt
        rw [if_pos ⟨rfl, hlt⟩, if_pos he, if_neg he, if_pos h2, Bool.false_or, decide_eq_true hlt, rputN_done fun x hx => lt_trans' h2 (h1.1 x hx)]
        rfl
end
end Go.Proofs.Ytopdhefhagckoaa
