/- disk: a crash, file by file. -/
import Derived.Test.YtopdhefhagckoaaDkAt
namespace Go.Proofs.Ytopdhefhagckoaa
open Go.RowKit
/-- the first i files are torn -/
def tornTo (i : Nat) (pl : List FB) (ks : List Int) : List FB := pl.mapIdx fun j p => if j < i then (torn p.1 (ks.getD j 0), p.2) else p
theorem tornTo_length (i : Nat) (pl : List FB) (ks : List Int) : (tornTo i pl ks).length = pl.length := by simp [tornTo]
theorem tornTo_at (i : Nat) (pl : List FB) (ks : List Int) {j : Nat} (hj : j < pl.length) : (tornTo i pl ks)[j]'(by rw [tornTo_length]; exact hj) = if j < i then (torn (pl[j]'hj).1 (ks.getD j 0), (pl[j]'hj).2) else pl[j]'hj := by simp [tornTo]
theorem tornTo_zero (pl : List FB) (ks : List Int) : tornTo 0 pl ks = pl := by
  apply List.ext_getElem
  · exact tornTo_length _ _ _
  · intro j h1 h2
    rw [tornTo_at 0 pl ks h2, if_neg (Nat.not_lt_zero _)]
theorem tornTo_nm (i : Nat) (pl : List FB) (ks : List Int) : (tornTo i pl ks).map fnm = pl.map fnm := by
  apply List.ext_getElem
  · simp [tornTo_length]
  · intro j h1 h2
    rw [List.getElem_map, List.getElem_map, tornTo_at i pl ks (by simpa using h2)]
    split <;> rfl
theorem tornTo_snd (i : Nat) (pl : List FB) (ks : List Int) : (tornTo i pl ks).map Prod.snd = pl.map Prod.snd := by
  apply List.ext_getElem
  · simp [tornTo_length]
  · intro j h1 h2
    rw [List.getElem_map, List.getElem_map, tornTo_at i pl ks (by simpa using h2)]
    split <;> rfl
theorem tornTo_all (pl : List FB) (ks : List Int) : files (tornTo pl.length pl ks) = crashL (files pl) ks := by
  apply List.ext_getElem
  · rw [crashL_length]; simp [files, tornTo_length]
  · intro j h1 h2
    have hj : j < pl.length := by simpa [files, tornTo_length] using h1
    rw [crashL_at (files pl) ks j (by simpa [files] using hj)]
    have e1 : (files (tornTo pl.length pl ks))[j]'h1 = ((tornTo pl.length pl ks)[j]'(by rw [tornTo_length]; exact hj)).1 := List.getElem_map ..
    have e2 : (files pl)[j]'(by simpa [files] using hj) = (pl[j]'hj).1 := List.getElem_map ..
    rw [e1, e2, tornTo_at pl.length pl ks hj, if_pos hj]
theorem tornTo_step {pl : List FB} (h : Rising fnm pl) (ks : List Int) {i : Nat} (hi : i < pl.length) : putN fnm (torn (pl[i]'hi).1 (ks.getD i 0), (pl[i]'hi).2) (tornTo i pl ks) = tornTo (i + 1) pl ks := by
  have hr : Rising fnm (tornTo i pl ks) := by
    have h1 : (pl.map fnm).Pairwise (fun a b => a < b) := List.pairwise_map.2 h
    rw [← tornTo_nm i pl ks] at h1
    exact List.pairwise_map.1 h1
  have hat : (tornTo i pl ks)[i]'(by rw [tornTo_length]; exact hi) = pl[i]'hi := by rw [tornTo_at i pl ks hi, if_neg (Nat.lt_irrefl _)]
  rw [putN_replace hr ⟨_, List.getElem_mem (by rw [tornTo_length]; exact hi), by rw [hat]; rfl⟩]
  apply List.ext_getElem
  · simp [tornTo_length]
  · intro j h1 h2
    have hj : j < pl.length := by simpa [tornTo_length] using h2
    rw [List.getElem_map, tornTo_at i pl ks hj, tornTo_at (i + 1) pl ks hj]
    have hpw := List.pairwise_iff_getElem.1 h
    by_cases hij : j = i
    · subst hij
      rw [if_neg (Nat.lt_irrefl _), if_pos (Nat.lt_succ_self _), if_pos (by rfl)]
    · have hne : fnm (pl[j]'hj) ≠ fnm (pl[i]'hi) := fun e => by
        rcases Nat.lt_or_gt_of_ne hij with hlt | hlt
        · have := hpw j i hj hi hlt; rw [e] at this; exact lt_irrefl _ this
        · have := hpw i j hi hj hlt; rw [e] at this; exact lt_irrefl _ this
      by_cases hlt : j < i
      · rw [if_pos hlt, if_pos (Nat.lt_succ_of_lt hlt)]
        exact if_neg hne
      · rw [if_neg hlt, if_neg (fun h9 : j < i + 1 => hlt (by omega))]
        exact if_neg hne
end Go.Proofs.Ytopdhefhagckoaa
