/- disk: steps of a run: what is apart stays, what is safe stays. -/
import Derived.Test.YtopdhefhagckoaaDSpec
namespace Go.Proofs.Ytopdhefhagckoaa
open Go.RowKit
/-- a call of the law's -/
structure AC where
  kind : Int
  name : ByteArray
  to_ : ByteArray
  s : ByteArray
  n : Int
  keep : List Int
def DS.step (d : DS) (a : AC) : DS × Int :=
  if a.kind = 0 ∨ a.kind = 1 then d.append a.name.data.toList a.s
  else if a.kind = 2 then d.sync a.name.data.toList
  else if a.kind = 3 then d.rename a.name.data.toList a.to_.data.toList
  else if a.kind = 4 then d.remove a.name.data.toList
  else if a.kind = 5 then d.arm a.n
  else (d.crash a.keep, 0)
theorem wf_step {d : DS} (h : d.wf) (a : AC) : (d.step a).1.wf := by
  unfold DS.step
  repeat' split
  · exact wf_append h _ _
  · exact wf_sync h _
  · exact wf_rename h _ _
  · exact wf_remove h _
  · exact wf_arm h _
  · exact wf_crash h _
theorem find_at {l : List FE} (h : Rising FE.nm l) {i : Nat} (hi : i < l.length) : findN FE.nm (l[i]'hi).nm l = some (l[i]'hi) := by
  induction l generalizing i with
  | nil => simp at hi
  | cons g l ih =>
    have h1 := List.pairwise_cons.1 h
    cases i with
    | zero => simp [findN]
    | succ i =>
      have hi' : i < l.length := by simpa using hi
      have hne : g.nm ≠ (l[i]'hi').nm := fun e => by
        have := h1.1 _ (List.getElem_mem hi')
        rw [← e] at this
        exact lt_irrefl _ this
      have := ih h1.2 hi'
      unfold findN at this ⊢
      rw [List.getElem_cons_succ, List.find?_cons_of_neg (by simpa using hne)]
      exact this
theorem crashL_length : ∀ (l : List FE) (ks : List Int), (crashL l ks).length = l.length
  | [], _ => rfl
  | f :: l, [] => by rw [crashL, List.length_cons, List.length_cons, crashL_length l []]
  | f :: l, k :: ks => by rw [crashL, List.length_cons, List.length_cons, crashL_length l ks]
theorem crashL_at : ∀ (l : List FE) (ks : List Int) (i : Nat) (hi : i < l.length), (crashL l ks)[i]'(by rw [crashL_length]; exact hi) = torn (l[i]'hi) (ks.getD i 0)
  | f :: l, [], 0, _ => rfl
  | f :: l, [], i + 1, h => by
    have := crashL_at l [] i (by simpa using h)
    simp only [crashL, List.getElem_cons_succ]
    rw [this]
    rfl
  | f :: l, k :: ks, 0, _ => rfl
  | f :: l, k :: ks, i + 1, h => by
    have := crashL_at l ks i (by simpa using h)
    simp only [crashL, List.getElem_cons_succ]
    rw [this]
    rfl
theorem find_crash {k : List UInt8} {f : FE} (hf : ∀ j, torn f j = f) : ∀ (l : List FE) (ks : List Int), findN FE.nm k l = some f → findN FE.nm k (crashL l ks) = some f
  | [], _, h => by cases h
  | g :: l, ks, h => by
    obtain ⟨j, ks', he⟩ : ∃ j ks', crashL (g :: l) ks = torn g j :: crashL l ks' := by
      cases ks with
      | nil => exact ⟨_, _, rfl⟩
      | cons j ks => exact ⟨_, _, rfl⟩
    rw [he]
    unfold findN at h ⊢
    by_cases hg : g.nm = k
    · rw [List.find?_cons_of_pos (by simpa using hg)] at h
      obtain rfl := Option.some.inj h
      rw [hf]
      rw [List.find?_cons_of_pos (by simpa using hg)]
    · rw [List.find?_cons_of_neg (by simpa using hg)] at h
      rw [List.find?_cons_of_neg (by show ¬ decide (g.nm = k) = true; simpa using hg)]
      exact find_crash hf l ks' h
theorem torn_whole {f : FE} (h : f.safe = f.b.size) (j : Int) : torn f j = f := by
  have hk : kept f j = 0 := by unfold kept; omega
  have hb : f.b.extract 0 (f.safe + kept f j) = f.b := by
    rw [hk, h]
    exact ByteArray.extract_zero_size
  cases f with
  | mk nm b safe =>
    simp only [torn, FE.mk.injEq, true_and]
    exact ⟨hb, by rw [hk]; rfl⟩
/-- a file of one's own that stays -/
structure Own (k : List UInt8) (s : ByteArray) (d : DS) : Prop where
  left : d.left = none
  wf : d.wf
  file : d.find k = some { nm := k, b := s, safe := s.size }
theorem Own.up {k : List UInt8} {s : ByteArray} {d : DS} (h : Own k s d) : d.down = false := by simp [DS.down, h.left]
theorem own_step {k : List UInt8} {s : ByteArray} {d : DS} (h : Own k s d) (a : AC) (hn : a.name.data.toList ≠ k) (ht : a.to_.data.toList ≠ k) (hk : a.kind ≠ 5) : Own k s (d.step a).1 := by
  refine ⟨?_, wf_step h.wf a, ?_⟩
  · unfold DS.step
    repeat' split
    · unfold DS.append
      repeat' split
      all_goals first | exact h.left | (simp [DS.did, h.left])
    · unfold DS.sync
      repeat' split
      all_goals first | exact h.left | (simp [DS.did, h.left])
    · unfold DS.rename
      repeat' split
      all_goals first | exact h.left | (simp [DS.did, h.left])
    · unfold DS.remove
      repeat' split
      all_goals first | exact h.left | (simp [DS.did, h.left])
    · rfl
  · have hf := h.file
    unfold DS.find at hf ⊢
    unfold DS.step
    repeat' split
    · unfold DS.append
      repeat' split
      all_goals first | exact hf | skip
      · rename_i f hfd _
        have hnm := (DS.find_mem hfd).2
        exact (find_put_other (nm := FE.nm) (f := { f with b := f.b ++ a.s }) (by rw [hnm]; exact hn) d.fs).trans hf
      · exact (find_put_other (nm := FE.nm) (f := { nm := a.name.data.toList, b := a.s, safe := 0 }) hn d.fs).trans hf
    · unfold DS.sync
      repeat' split
      all_goals first | exact hf | skip
      · rename_i f hfd
        have hnm := (DS.find_mem hfd).2
        exact (find_put_other (nm := FE.nm) (f := { f with safe := f.b.size }) (by rw [hnm]; exact hn) d.fs).trans hf
    · unfold DS.rename
      repeat' split
      all_goals first | exact hf | skip
      · rename_i f hfd _
        exact (find_put_other (nm := FE.nm) (f := { f with nm := a.to_.data.toList }) ht _).trans ((find_drop_other hn d.fs).trans hf)
    · unfold DS.remove
      repeat' split
      all_goals first | exact hf | skip
      · exact (find_drop_other hn d.fs).trans hf
    · exact find_crash (fun j => torn_whole rfl j) d.fs a.keep hf
/-- behind a crash: what was safe is there, and no more than there was -/
theorem crash_safe {d : DS} (h : d.wf) (ks : List Int) {i : Nat} (hi : i < d.fs.length) :
    ∃ f', (d.crash ks).find (d.fs[i]'hi).nm = some f' ∧ f'.safe = f'.b.size ∧ (d.fs[i]'hi).safe ≤ f'.safe ∧ f'.safe ≤ (d.fs[i]'hi).b.size ∧ f'.b = (d.fs[i]'hi).b.extract 0 f'.safe := by
  have hw := wf_crash h ks
  have hl : i < (d.crash ks).fs.length := by show i < (crashL d.fs ks).length; rw [crashL_length]; exact hi
  have hfa := find_at hw.rising hl
  have hat : (d.crash ks).fs[i]'hl = torn (d.fs[i]'hi) (ks.getD i 0) := crashL_at d.fs ks i hi
  rw [hat] at hfa
  have hok := h.files _ (List.getElem_mem hi)
  have hk : (d.fs[i]'hi).safe + kept (d.fs[i]'hi) (ks.getD i 0) ≤ (d.fs[i]'hi).b.size := by unfold kept; have := hok.2.1; omega
  refine ⟨_, hfa, ?_, Nat.le_add_right _ _, hk, rfl⟩
  show _ = ((d.fs[i]'hi).b.extract 0 _).size
  rw [ByteArray.size_extract]
  show (d.fs[i]'hi).safe + _ = _
  omega
end Go.Proofs.Ytopdhefhagckoaa
