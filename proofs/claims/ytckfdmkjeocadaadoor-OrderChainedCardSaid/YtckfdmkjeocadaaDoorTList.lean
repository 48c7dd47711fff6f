/- tx.list: what the call does. -/
import Derived.Test.YtckfdmkjeocadaaDoorText
import Derived.Test.YtckfdmkjeocadaaDoorRl
namespace Go.Proofs.YtckfdmkjeocadaaDoor
open Go.RowKit
/-- a list that is all of a text -/
def rdAll (s : ByteArray) : Except Int (List ByteArray) :=
  match rdL s.data.toList with
  | .error e => .error e
  | .ok (ts, c) => if c = s.size then .ok ts else .error 6
def tlPost (w : World) (r : Except Int (List ByteArray)) (e : Ending) (w' : World) : Prop :=
  Below w.heap.size w w' ∧ match r with
  | .error x => ∃ v, e = .returned (.tuple #[v, .int .i64 x])
  | .ok ts => ∃ v, e = .returned (.tuple #[v, .int .i64 0]) ∧ w'.ownsRow w.heap.size 9 1 v ts.length (strs ts)
theorem rdL_err {l : List UInt8} {e : Int} (h : rdL l = .error e) : e = 3 ∨ e = 5 ∨ e = 6 := by
  have h1 : ∀ (n left : Nat) (l : List UInt8) (e : Int), rdLs n left l = .error e → e = 3 ∨ e = 5 ∨ e = 6 := by
    intro n
    induction n with
    | zero => intro left l e h; simp [rdLs] at h
    | succ n ih =>
      intro left l e h
      simp only [rdLs] at h
      split at h
      · rename_i ht; simp at h; subst h; exact rdT_err ht
      · split at h
        · simp at h; omega
        · split at h
          · rename_i ht; simp at h; subst h; exact ih _ _ _ ht
          · simp at h
  unfold rdL at h
  split at h
  · rename_i hn; simp at h; subst h; have := rdN_err hn; omega
  · split at h
    · simp at h; omega
    · split at h
      · rename_i ht; simp at h; subst h; exact h1 _ _ _ _ ht
      · simp at h
theorem rdAll_err {s : ByteArray} {e : Int} (h : rdAll s = .error e) : (e != 0) = true := by
  unfold rdAll at h
  split at h
  · rename_i hn; simp at h; subst h; exact ne0_of3 (rdL_err hn)
  · split at h
    · simp at h
    · simp at h; subst h; rfl
set_option maxHeartbeats 1000000 in
set_option maxRecDepth 4000 in
theorem tlist_any (s : ByteArray) (w : World) (hs : s.size ≤ 140737488355328) : Calls Tryd.prog 58 #[.string s] w (tlPost w (rdAll s)) := by
  have HC := rl_any s 0
  rw [List.drop_zero] at HC
  cases hr : rdL s.data.toList with
  | error x =>
    have hx0 : (x != 0) = true := ne0_of3 (rdL_err hr)
    have hx1 : (x == 0) = false := by simpa using hx0
    have hR : rdAll s = .error x := by simp [rdAll, hr]
    rw [hr] at HC
    rw [hR]
    clear hr hR
    go_enter Tryd.func58, Tryd.ntmps58
    go_wp2_with fail
    refine (HC _ hs (Nat.zero_le _)).mono ?_
    rintro e w1 ⟨hb, rfl⟩
    go_wp2_with fail
    go_ret2
    exact ⟨hb, _, rfl⟩
  | ok p =>
    obtain ⟨ts, c⟩ := p
    have h0 := rdL_ok hr
    have hL : s.data.toList.length = s.size := rfl
    rw [hr] at HC
    by_cases hc : c = s.size
    · have hR : rdAll s = .ok ts := by simp [rdAll, hr, hc]
      have hc2 : (c : Int) = s.size := by omega
      rw [hR]
      clear hr hR
      go_enter Tryd.func58, Tryd.ntmps58
      go_wp2_with fail
      refine (HC _ hs (Nat.zero_le _)).mono ?_
      rintro e w1 ⟨hb, v, rfl, ho⟩
      have HB := Lib.hid hb
      have HO := Lib.hid ho
      clear hb ho
      rw [Nat.zero_add]
      go_wp2_with fail
      go_ret2
      exact ⟨HB.out, v, rfl, HO.out⟩
    · have hR : rdAll s = .error 6 := by simp [rdAll, hr, hc]
      have hc2 : ¬((c : Int) = s.size) := by omega
      have hc3 : (c : Int) < s.size := by omega
      rw [hR]
      clear hr hR
      go_enter Tryd.func58, Tryd.ntmps58
      go_wp2_with fail
      refine (HC _ hs (Nat.zero_le _)).mono ?_
      rintro e w1 ⟨hb, v, rfl, ho⟩
      have HB := Lib.hid hb
      have HO := Lib.hid ho
      clear hb ho
      rw [Nat.zero_add]
      go_wp2_with fail
      go_ret2
      exact ⟨HB.out, v, rfl⟩
end Go.Proofs.YtckfdmkjeocadaaDoor
