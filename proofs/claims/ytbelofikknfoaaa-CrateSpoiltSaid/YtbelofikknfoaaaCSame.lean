/- runs.same: what the call does. -/
import Derived.Test.YtbelofikknfoaaaCRuns
import Derived.Test.YtbelofikknfoaaaProg
import Derived.Test.YtbelofikknfoaaaCQuiet
import Derived.Deep.LoopGhost
import Derived.Deep.QuietTactic
import Derived.BigQuiet
import Derived.WalkMore
namespace Go.Proofs.Ytbelofikknfoaaa
open Go.RowKit
set_option maxHeartbeats 1000000
set_option maxRecDepth 4000
/-- so many equal bytes stand at a place -/
def sameN (s : ByteArray) (a : Nat) : Nat := if h : a < s.size then runN (s[a]'h) 130 (s.data.toList.drop a) else 0
theorem sameN_is {s : ByteArray} {a n : Nat} (h : a < s.size) (h1 : n ≤ 130) (h2 : a + n ≤ s.size) (hj : ∀ j (hj : a + j < s.size), j < n → s[a + j]'hj = s[a]'h) (he : n = 130 ∨ a + n = s.size ∨ ∃ h3 : a + n < s.size, s[a + n]'h3 ≠ s[a]'h) : sameN s a = n := by
  have hl : s.data.toList.length = s.size := rfl
  rw [sameN, dif_pos h]
  refine runN_is _ 130 n _ h1 (by rw [List.length_drop, hl]; omega) (fun j h5 h6 => ?_) ?_
  · rw [List.getElem_drop]
    exact hj j (by rw [List.length_drop, hl] at h5; omega) h6
  · rcases he with he | he | ⟨h3, h4⟩
    · exact .inl he
    · exact .inr (.inl (by rw [List.length_drop, hl]; omega))
    · refine .inr (.inr ⟨by rw [List.length_drop, hl]; omega, ?_⟩)
      rw [List.getElem_drop]
      exact h4
theorem same_any (s : ByteArray) (a : Nat) (w : World) (hs : s.size ≤ 140737488355328) (ha : a < s.size) :
    Calls Try.prog 37 #[.string s, .int .i64 a] w fun e w' => e = .returned (.int .i64 (sameN s a)) ∧ Below w.heap.size w w' := by
  have H0 : Hid (∀ j (hj : a + j < s.size), j < 1 → s[a + j]'hj = s[a]'ha) := show ∀ j, _ from fun j hj hn => by
    have h : j = 0 := by omega
    subst h
    rfl
  go_enter Try.func37, Try.ntmps37
  go_wp2_with fail
  go_loopg [5] 129 (fun gk i wr => ∃ n : Nat, n + gk = 130 ∧ 1 ≤ n ∧ a + n ≤ s.size ∧ i = .int .i64 n ∧ Hid (∀ j (hj : a + j < s.size), j < n → s[a + j]'hj = s[a]'ha) ∧ Hid (Below w.heap.size w wr))
  case atStart => exact ⟨1, by omega, by omega, by omega, rfl, H0, Below.refl _ _⟩
  case round =>
    obtain ⟨n, hn, h1, hle, rfl, HJ, HB⟩ := hrel
    have f0 : (0 : Int) ≤ a := by omega
    have f1 : (a : Int) < s.size := by omega
    obtain ⟨k, hk⟩ : ∃ k, k = a + n := ⟨_, rfl⟩
    have e1 : IntKind.i64.wrap ((a : Int) + n) = (k : Int) := by rw [IntWalk.i64_in _ (by omega)]; omega
    have f2 : (0 : Int) ≤ (k : Int) := by omega
    have HK := Lib.hid hk
    by_cases h130 : n < 130
    · have d0 : decide ((n : Int) < 130) = true := decide_eq_true (by omega)
      by_cases hlt : k < s.size
      · have d1 : decide ((k : Int) < s.size) = true := decide_eq_true (by omega)
        have f3 : (k : Int) < s.size := by omega
        by_cases hc : s[k]'hlt = s[a]'ha
        · have d2 : (((s[k]'hlt).toNat : Int) == ((s[a]'ha).toNat : Int)) = true := by rw [hc]; simp
          have HC : Hid (∀ hj : a + n < s.size, s[a + n]'hj = s[a]'ha) := show ∀ hj, _ from by subst hk; exact fun _ => hc
          clear hk
          clear hc
          go_wp2_with fail
          refine wp_region_classW (fun W => Below w.heap.size w W) (by kernel_rfl) (by kernel_rfl) HB.out.drew ?_
          refine WQ.gen (v := ?_) (by kernel_rfl) ?_ ?_
          rotate_left
          · intro W hC
            go_simp
            try with_reducible rfl
          refine WQ.eq (a' := ?_) ?_ ?_
          rotate_left
          · try simp only [Act.put, List.setIfInBounds_toArray, List.set_cons_zero, List.set_cons_succ]
            exact rfl
          refine WQ.gen (v := ?_) (by kernel_rfl) ?_ ?_
          rotate_left
          · intro W hC
            go_simp
            try with_reducible rfl
          refine WQ.eq (a' := ?_) ?_ ?_
          rotate_left
          · try simp only [Act.put, List.setIfInBounds_toArray, List.set_cons_zero, List.set_cons_succ]
            exact rfl
          refine WQ.gen (v := ?_) (by kernel_rfl) ?_ ?_
          rotate_left
          · intro W hC
            go_simp
            try with_reducible rfl
          refine WQ.eq (a' := ?_) ?_ ?_
          rotate_left
          · try simp only [Act.put, List.setIfInBounds_toArray, List.set_cons_zero, List.set_cons_succ]
            exact rfl
          refine WQ.gen (v := ?_) (by kernel_rfl) ?_ ?_
          rotate_left
          · intro W hC
            go_simp
            try with_reducible rfl
          refine WQ.eq (a' := ?_) ?_ ?_
          rotate_left
          · try simp only [Act.put, List.setIfInBounds_toArray, List.set_cons_zero, List.set_cons_succ]
            exact rfl
          refine WQ.gen (v := ?_) (by kernel_rfl) ?_ ?_
          rotate_left
          · intro W hC
            go_simp
            try with_reducible rfl
          refine WQ.eq (a' := ?_) ?_ ?_
          rotate_left
          · try simp only [Act.put, List.setIfInBounds_toArray, List.set_cons_zero, List.set_cons_succ]
            exact rfl
          refine WQ.gen (v := ?_) (by kernel_rfl) ?_ ?_
          rotate_left
          · intro W hC
            go_simp
            try with_reducible rfl
          refine WQ.eq (a' := ?_) ?_ ?_
          rotate_left
          · try simp only [Act.put, List.setIfInBounds_toArray, List.set_cons_zero, List.set_cons_succ]
            exact rfl
          refine WQ.gen (v := ?_) (by kernel_rfl) ?_ ?_
          rotate_left
          · intro W hC
            go_simp
            try with_reducible rfl
          refine WQ.eq (a' := ?_) ?_ ?_
          rotate_left
          · try simp only [Act.put, List.setIfInBounds_toArray, List.set_cons_zero, List.set_cons_succ]
            exact rfl
          refine WQ.gen (v := ?_) (by kernel_rfl) ?_ ?_
          rotate_left
          · intro W hC
            go_simp
            try with_reducible rfl
          refine WQ.eq (a' := ?_) ?_ ?_
          rotate_left
          · try simp only [Act.put, List.setIfInBounds_toArray, List.set_cons_zero, List.set_cons_succ]
            exact rfl
          refine WQ.gen (v := ?_) (by kernel_rfl) ?_ ?_
          rotate_left
          · intro W hC
            go_simp
            try with_reducible rfl
          refine WQ.eq (a' := ?_) ?_ ?_
          rotate_left
          · try simp only [Act.put, List.setIfInBounds_toArray, List.set_cons_zero, List.set_cons_succ]
            exact rfl
          refine WQ.gen (v := ?_) (by kernel_rfl) ?_ ?_
          rotate_left
          · intro W hC
            go_simp
            try with_reducible rfl
          refine WQ.eq (a' := ?_) ?_ ?_
          rotate_left
          · try simp only [Act.put, List.setIfInBounds_toArray, List.set_cons_zero, List.set_cons_succ]
            exact rfl
          refine WQ.gen (v := ?_) (by kernel_rfl) ?_ ?_
          rotate_left
          · intro W hC
            go_simp
            try with_reducible rfl
          refine WQ.eq (a' := ?_) ?_ ?_
          rotate_left
          · try simp only [Act.put, List.setIfInBounds_toArray, List.set_cons_zero, List.set_cons_succ]
            exact rfl
          refine WQ.gen (v := ?_) (by kernel_rfl) ?_ ?_
          rotate_left
          · intro W hC
            go_simp
            try with_reducible rfl
          refine WQ.eq (a' := ?_) ?_ ?_
          rotate_left
          · try simp only [Act.put, List.setIfInBounds_toArray, List.set_cons_zero, List.set_cons_succ]
            exact rfl
          refine WQ.gen (v := ?_) (by kernel_rfl) ?_ ?_
          rotate_left
          · intro W hC
            go_simp
            try with_reducible rfl
          refine WQ.eq (a' := ?_) ?_ ?_
          rotate_left
          · try simp only [Act.put, List.setIfInBounds_toArray, List.set_cons_zero, List.set_cons_succ]
            exact rfl
          refine WQ.gen (v := ?_) (by kernel_rfl) ?_ ?_
          rotate_left
          · intro W hC
            go_simp
            try with_reducible rfl
          refine WQ.eq (a' := ?_) ?_ ?_
          rotate_left
          · try simp only [Act.put, List.setIfInBounds_toArray, List.set_cons_zero, List.set_cons_succ]
            exact rfl
          refine WQ.gen (v := ?_) (by kernel_rfl) ?_ ?_
          rotate_left
          · intro W hC
            go_simp
            try with_reducible rfl
          refine WQ.eq (a' := ?_) ?_ ?_
          rotate_left
          · try simp only [Act.put, List.setIfInBounds_toArray, List.set_cons_zero, List.set_cons_succ]
            exact rfl
          refine WQ.gen (v := ?_) (by kernel_rfl) ?_ ?_
          rotate_left
          · intro W hC
            go_simp
            try with_reducible rfl
          refine WQ.eq (a' := ?_) ?_ ?_
          rotate_left
          · try simp only [Act.put, List.setIfInBounds_toArray, List.set_cons_zero, List.set_cons_succ]
            exact rfl
          refine WQ.gen (v := ?_) (by kernel_rfl) ?_ ?_
          rotate_left
          · intro W hC
            go_simp
            try with_reducible rfl
          refine WQ.eq (a' := ?_) ?_ ?_
          rotate_left
          · try simp only [Act.put, List.setIfInBounds_toArray, List.set_cons_zero, List.set_cons_succ]
            exact rfl
          refine WQ.gen (v := ?_) (by kernel_rfl) ?_ ?_
          rotate_left
          · intro W hC
            go_simp
            try with_reducible rfl
          refine WQ.eq (a' := ?_) ?_ ?_
          rotate_left
          · try simp only [Act.put, List.setIfInBounds_toArray, List.set_cons_zero, List.set_cons_succ]
            exact rfl
          refine WQ.gen (v := ?_) (by kernel_rfl) ?_ ?_
          rotate_left
          · intro W hC
            go_simp
            try with_reducible rfl
          refine WQ.eq (a' := ?_) ?_ ?_
          rotate_left
          · try simp only [Act.put, List.setIfInBounds_toArray, List.set_cons_zero, List.set_cons_succ]
            exact rfl
          refine WQ.gen (v := ?_) (by kernel_rfl) ?_ ?_
          rotate_left
          · intro W hC
            go_simp
            try with_reducible rfl
          refine WQ.eq (a' := ?_) ?_ ?_
          rotate_left
          · try simp only [Act.put, List.setIfInBounds_toArray, List.set_cons_zero, List.set_cons_succ]
            exact rfl
          refine WQ.gen (v := ?_) (by kernel_rfl) ?_ ?_
          rotate_left
          · intro W hC
            go_simp
            try with_reducible rfl
          refine WQ.eq (a' := ?_) ?_ ?_
          rotate_left
          · try simp only [Act.put, List.setIfInBounds_toArray, List.set_cons_zero, List.set_cons_succ]
            exact rfl
          refine WQ.nil ?_
          intro w2 hB2
          have HB2 := Lib.hid hB2
          clear hB2
          go_wp2_with fail
          go_roundg (gk - 1)
          case measure => omega
          case rel => exact ⟨n + 1, by omega, by omega, by have := HK.out; omega, by go_num, show ∀ j, _ from fun j hj hjn => (Nat.lt_succ_iff_lt_or_eq.1 hjn).elim (HJ.out j hj) (fun h => by subst h; exact HC.out hj), HB2⟩
        · have d2 : (((s[k]'hlt).toNat : Int) == ((s[a]'ha).toNat : Int)) = false := by
            rw [beq_eq_false_iff_ne]
            intro h
            exact hc (UInt8.toNat_inj.1 (by omega))
          have HF : Hid (sameN s a = n) := show _ = _ from by subst hk; exact sameN_is ha (by omega) hle HJ.out (.inr (.inr ⟨hlt, hc⟩))
          clear hc hk
          go_wp2_with fail
          refine wp_region_classW (fun W => Below w.heap.size w W) (by kernel_rfl) (by kernel_rfl) HB.out.drew ?_
          refine WQ.gen (v := ?_) (by kernel_rfl) ?_ ?_
          rotate_left
          · intro W hC
            go_simp
            try with_reducible rfl
          refine WQ.eq (a' := ?_) ?_ ?_
          rotate_left
          · try simp only [Act.put, List.setIfInBounds_toArray, List.set_cons_zero, List.set_cons_succ]
            exact rfl
          refine WQ.gen (v := ?_) (by kernel_rfl) ?_ ?_
          rotate_left
          · intro W hC
            go_simp
            try with_reducible rfl
          refine WQ.eq (a' := ?_) ?_ ?_
          rotate_left
          · try simp only [Act.put, List.setIfInBounds_toArray, List.set_cons_zero, List.set_cons_succ]
            exact rfl
          refine WQ.gen (v := ?_) (by kernel_rfl) ?_ ?_
          rotate_left
          · intro W hC
            go_simp
            try with_reducible rfl
          refine WQ.eq (a' := ?_) ?_ ?_
          rotate_left
          · try simp only [Act.put, List.setIfInBounds_toArray, List.set_cons_zero, List.set_cons_succ]
            exact rfl
          refine WQ.gen (v := ?_) (by kernel_rfl) ?_ ?_
          rotate_left
          · intro W hC
            go_simp
            try with_reducible rfl
          refine WQ.eq (a' := ?_) ?_ ?_
          rotate_left
          · try simp only [Act.put, List.setIfInBounds_toArray, List.set_cons_zero, List.set_cons_succ]
            exact rfl
          refine WQ.gen (v := ?_) (by kernel_rfl) ?_ ?_
          rotate_left
          · intro W hC
            go_simp
            try with_reducible rfl
          refine WQ.eq (a' := ?_) ?_ ?_
          rotate_left
          · try simp only [Act.put, List.setIfInBounds_toArray, List.set_cons_zero, List.set_cons_succ]
            exact rfl
          refine WQ.gen (v := ?_) (by kernel_rfl) ?_ ?_
          rotate_left
          · intro W hC
            go_simp
            try with_reducible rfl
          refine WQ.eq (a' := ?_) ?_ ?_
          rotate_left
          · try simp only [Act.put, List.setIfInBounds_toArray, List.set_cons_zero, List.set_cons_succ]
            exact rfl
          refine WQ.gen (v := ?_) (by kernel_rfl) ?_ ?_
          rotate_left
          · intro W hC
            go_simp
            try with_reducible rfl
          refine WQ.eq (a' := ?_) ?_ ?_
          rotate_left
          · try simp only [Act.put, List.setIfInBounds_toArray, List.set_cons_zero, List.set_cons_succ]
            exact rfl
          refine WQ.gen (v := ?_) (by kernel_rfl) ?_ ?_
          rotate_left
          · intro W hC
            go_simp
            try with_reducible rfl
          refine WQ.eq (a' := ?_) ?_ ?_
          rotate_left
          · try simp only [Act.put, List.setIfInBounds_toArray, List.set_cons_zero, List.set_cons_succ]
            exact rfl
          refine WQ.gen (v := ?_) (by kernel_rfl) ?_ ?_
          rotate_left
          · intro W hC
            go_simp
            try with_reducible rfl
          refine WQ.eq (a' := ?_) ?_ ?_
          rotate_left
          · try simp only [Act.put, List.setIfInBounds_toArray, List.set_cons_zero, List.set_cons_succ]
            exact rfl
          refine WQ.gen (v := ?_) (by kernel_rfl) ?_ ?_
          rotate_left
          · intro W hC
            go_simp
            try with_reducible rfl
          refine WQ.eq (a' := ?_) ?_ ?_
          rotate_left
          · try simp only [Act.put, List.setIfInBounds_toArray, List.set_cons_zero, List.set_cons_succ]
            exact rfl
          refine WQ.gen (v := ?_) (by kernel_rfl) ?_ ?_
          rotate_left
          · intro W hC
            go_simp
            try with_reducible rfl
          refine WQ.eq (a' := ?_) ?_ ?_
          rotate_left
          · try simp only [Act.put, List.setIfInBounds_toArray, List.set_cons_zero, List.set_cons_succ]
            exact rfl
          refine WQ.gen (v := ?_) (by kernel_rfl) ?_ ?_
          rotate_left
          · intro W hC
            go_simp
            try with_reducible rfl
          refine WQ.eq (a' := ?_) ?_ ?_
          rotate_left
          · try simp only [Act.put, List.setIfInBounds_toArray, List.set_cons_zero, List.set_cons_succ]
            exact rfl
          refine WQ.gen (v := ?_) (by kernel_rfl) ?_ ?_
          rotate_left
          · intro W hC
            go_simp
            try with_reducible rfl
          refine WQ.eq (a' := ?_) ?_ ?_
          rotate_left
          · try simp only [Act.put, List.setIfInBounds_toArray, List.set_cons_zero, List.set_cons_succ]
            exact rfl
          refine WQ.gen (v := ?_) (by kernel_rfl) ?_ ?_
          rotate_left
          · intro W hC
            go_simp
            try with_reducible rfl
          refine WQ.eq (a' := ?_) ?_ ?_
          rotate_left
          · try simp only [Act.put, List.setIfInBounds_toArray, List.set_cons_zero, List.set_cons_succ]
            exact rfl
          refine WQ.gen (v := ?_) (by kernel_rfl) ?_ ?_
          rotate_left
          · intro W hC
            go_simp
            try with_reducible rfl
          refine WQ.eq (a' := ?_) ?_ ?_
          rotate_left
          · try simp only [Act.put, List.setIfInBounds_toArray, List.set_cons_zero, List.set_cons_succ]
            exact rfl
          refine WQ.gen (v := ?_) (by kernel_rfl) ?_ ?_
          rotate_left
          · intro W hC
            go_simp
            try with_reducible rfl
          refine WQ.eq (a' := ?_) ?_ ?_
          rotate_left
          · try simp only [Act.put, List.setIfInBounds_toArray, List.set_cons_zero, List.set_cons_succ]
            exact rfl
          refine WQ.gen (v := ?_) (by kernel_rfl) ?_ ?_
          rotate_left
          · intro W hC
            go_simp
            try with_reducible rfl
          refine WQ.eq (a' := ?_) ?_ ?_
          rotate_left
          · try simp only [Act.put, List.setIfInBounds_toArray, List.set_cons_zero, List.set_cons_succ]
            exact rfl
          refine WQ.gen (v := ?_) (by kernel_rfl) ?_ ?_
          rotate_left
          · intro W hC
            go_simp
            try with_reducible rfl
          refine WQ.eq (a' := ?_) ?_ ?_
          rotate_left
          · try simp only [Act.put, List.setIfInBounds_toArray, List.set_cons_zero, List.set_cons_succ]
            exact rfl
          refine WQ.gen (v := ?_) (by kernel_rfl) ?_ ?_
          rotate_left
          · intro W hC
            go_simp
            try with_reducible rfl
          refine WQ.eq (a' := ?_) ?_ ?_
          rotate_left
          · try simp only [Act.put, List.setIfInBounds_toArray, List.set_cons_zero, List.set_cons_succ]
            exact rfl
          refine WQ.gen (v := ?_) (by kernel_rfl) ?_ ?_
          rotate_left
          · intro W hC
            go_simp
            try with_reducible rfl
          refine WQ.eq (a' := ?_) ?_ ?_
          rotate_left
          · try simp only [Act.put, List.setIfInBounds_toArray, List.set_cons_zero, List.set_cons_succ]
            exact rfl
          refine WQ.gen (v := ?_) (by kernel_rfl) ?_ ?_
          rotate_left
          · intro W hC
            go_simp
            try with_reducible rfl
          refine WQ.eq (a' := ?_) ?_ ?_
          rotate_left
          · try simp only [Act.put, List.setIfInBounds_toArray, List.set_cons_zero, List.set_cons_succ]
            exact rfl
          refine WQ.nil ?_
          intro w2 hB2
          have HB2 := Lib.hid hB2
          clear hB2
          go_wp2_with fail
          go_ret
          exact ⟨by rw [HF.out]; rfl, HB2.out⟩
      · have d1 : decide ((k : Int) < s.size) = false := decide_eq_false (by omega)
        have HF : Hid (sameN s a = n) := show _ = _ from sameN_is ha (by omega) hle HJ.out (.inr (.inl (by omega)))
        clear hk
        go_wp2_with fail
        refine wp_region_classW (fun W => Below w.heap.size w W) (by kernel_rfl) (by kernel_rfl) HB.out.drew ?_
        refine WQ.gen (v := ?_) (by kernel_rfl) ?_ ?_
        rotate_left
        · intro W hC
          go_simp
          try with_reducible rfl
        refine WQ.eq (a' := ?_) ?_ ?_
        rotate_left
        · try simp only [Act.put, List.setIfInBounds_toArray, List.set_cons_zero, List.set_cons_succ]
          exact rfl
        refine WQ.gen (v := ?_) (by kernel_rfl) ?_ ?_
        rotate_left
        · intro W hC
          go_simp
          try with_reducible rfl
        refine WQ.eq (a' := ?_) ?_ ?_
        rotate_left
        · try simp only [Act.put, List.setIfInBounds_toArray, List.set_cons_zero, List.set_cons_succ]
          exact rfl
        refine WQ.gen (v := ?_) (by kernel_rfl) ?_ ?_
        rotate_left
        · intro W hC
          go_simp
          try with_reducible rfl
        refine WQ.eq (a' := ?_) ?_ ?_
        rotate_left
        · try simp only [Act.put, List.setIfInBounds_toArray, List.set_cons_zero, List.set_cons_succ]
          exact rfl
        refine WQ.gen (v := ?_) (by kernel_rfl) ?_ ?_
        rotate_left
        · intro W hC
          go_simp
          try with_reducible rfl
        refine WQ.eq (a' := ?_) ?_ ?_
        rotate_left
        · try simp only [Act.put, List.setIfInBounds_toArray, List.set_cons_zero, List.set_cons_succ]
          exact rfl
        refine WQ.gen (v := ?_) (by kernel_rfl) ?_ ?_
        rotate_left
        · intro W hC
          go_simp
          try with_reducible rfl
        refine WQ.eq (a' := ?_) ?_ ?_
        rotate_left
        · try simp only [Act.put, List.setIfInBounds_toArray, List.set_cons_zero, List.set_cons_succ]
          exact rfl
        refine WQ.gen (v := ?_) (by kernel_rfl) ?_ ?_
        rotate_left
        · intro W hC
          go_simp
          try with_reducible rfl
        refine WQ.eq (a' := ?_) ?_ ?_
        rotate_left
        · try simp only [Act.put, List.setIfInBounds_toArray, List.set_cons_zero, List.set_cons_succ]
          exact rfl
        refine WQ.gen (v := ?_) (by kernel_rfl) ?_ ?_
        rotate_left
        · intro W hC
          go_simp
          try with_reducible rfl
        refine WQ.eq (a' := ?_) ?_ ?_
        rotate_left
        · try simp only [Act.put, List.setIfInBounds_toArray, List.set_cons_zero, List.set_cons_succ]
          exact rfl
        refine WQ.gen (v := ?_) (by kernel_rfl) ?_ ?_
        rotate_left
        · intro W hC
          go_simp
          try with_reducible rfl
        refine WQ.eq (a' := ?_) ?_ ?_
        rotate_left
        · try simp only [Act.put, List.setIfInBounds_toArray, List.set_cons_zero, List.set_cons_succ]
          exact rfl
        refine WQ.gen (v := ?_) (by kernel_rfl) ?_ ?_
        rotate_left
        · intro W hC
          go_simp
          try with_reducible rfl
        refine WQ.eq (a' := ?_) ?_ ?_
        rotate_left
        · try simp only [Act.put, List.setIfInBounds_toArray, List.set_cons_zero, List.set_cons_succ]
          exact rfl
        refine WQ.gen (v := ?_) (by kernel_rfl) ?_ ?_
        rotate_left
        · intro W hC
          go_simp
          try with_reducible rfl
        refine WQ.eq (a' := ?_) ?_ ?_
        rotate_left
        · try simp only [Act.put, List.setIfInBounds_toArray, List.set_cons_zero, List.set_cons_succ]
          exact rfl
        refine WQ.gen (v := ?_) (by kernel_rfl) ?_ ?_
        rotate_left
        · intro W hC
          go_simp
          try with_reducible rfl
        refine WQ.eq (a' := ?_) ?_ ?_
        rotate_left
        · try simp only [Act.put, List.setIfInBounds_toArray, List.set_cons_zero, List.set_cons_succ]
          exact rfl
        refine WQ.skip (by kernel_rfl) ?_
        refine WQ.eq (a' := ?_) ?_ ?_
        rotate_left
        · try simp only [Act.put, List.setIfInBounds_toArray, List.set_cons_zero, List.set_cons_succ]
          exact rfl
        refine WQ.skip (by kernel_rfl) ?_
        refine WQ.eq (a' := ?_) ?_ ?_
        rotate_left
        · try simp only [Act.put, List.setIfInBounds_toArray, List.set_cons_zero, List.set_cons_succ]
          exact rfl
        refine WQ.skip (by kernel_rfl) ?_
        refine WQ.eq (a' := ?_) ?_ ?_
        rotate_left
        · try simp only [Act.put, List.setIfInBounds_toArray, List.set_cons_zero, List.set_cons_succ]
          exact rfl
        refine WQ.skip (by kernel_rfl) ?_
        refine WQ.eq (a' := ?_) ?_ ?_
        rotate_left
        · try simp only [Act.put, List.setIfInBounds_toArray, List.set_cons_zero, List.set_cons_succ]
          exact rfl
        refine WQ.skip (by kernel_rfl) ?_
        refine WQ.eq (a' := ?_) ?_ ?_
        rotate_left
        · try simp only [Act.put, List.setIfInBounds_toArray, List.set_cons_zero, List.set_cons_succ]
          exact rfl
        refine WQ.skip (by kernel_rfl) ?_
        refine WQ.eq (a' := ?_) ?_ ?_
        rotate_left
        · try simp only [Act.put, List.setIfInBounds_toArray, List.set_cons_zero, List.set_cons_succ]
          exact rfl
        refine WQ.skip (by kernel_rfl) ?_
        refine WQ.eq (a' := ?_) ?_ ?_
        rotate_left
        · try simp only [Act.put, List.setIfInBounds_toArray, List.set_cons_zero, List.set_cons_succ]
          exact rfl
        refine WQ.skip (by kernel_rfl) ?_
        refine WQ.eq (a' := ?_) ?_ ?_
        rotate_left
        · try simp only [Act.put, List.setIfInBounds_toArray, List.set_cons_zero, List.set_cons_succ]
          exact rfl
        refine WQ.skip (by kernel_rfl) ?_
        refine WQ.eq (a' := ?_) ?_ ?_
        rotate_left
        · try simp only [Act.put, List.setIfInBounds_toArray, List.set_cons_zero, List.set_cons_succ]
          exact rfl
        refine WQ.gen (v := ?_) (by kernel_rfl) ?_ ?_
        rotate_left
        · intro W hC
          go_simp
          try with_reducible rfl
        refine WQ.eq (a' := ?_) ?_ ?_
        rotate_left
        · try simp only [Act.put, List.setIfInBounds_toArray, List.set_cons_zero, List.set_cons_succ]
          exact rfl
        refine WQ.nil ?_
        intro w2 hB2
        have HB2 := Lib.hid hB2
        clear hB2
        go_wp2_with fail
        go_ret
        exact ⟨by rw [HF.out]; rfl, HB2.out⟩
    · have d0 : decide ((n : Int) < 130) = false := decide_eq_false (by omega)
      have HF : Hid (sameN s a = n) := show _ = _ from sameN_is ha (by omega) hle HJ.out (.inl (by omega))
      go_wp2_with fail
      refine wp_region_classW (fun W => Below w.heap.size w W) (by kernel_rfl) (by kernel_rfl) HB.out.drew ?_
      refine WQ.gen (v := ?_) (by kernel_rfl) ?_ ?_
      rotate_left
      · intro W hC
        go_simp
        try with_reducible rfl
      refine WQ.eq (a' := ?_) ?_ ?_
      rotate_left
      · try simp only [Act.put, List.setIfInBounds_toArray, List.set_cons_zero, List.set_cons_succ]
        exact rfl
      refine WQ.gen (v := ?_) (by kernel_rfl) ?_ ?_
      rotate_left
      · intro W hC
        go_simp
        try with_reducible rfl
      refine WQ.eq (a' := ?_) ?_ ?_
      rotate_left
      · try simp only [Act.put, List.setIfInBounds_toArray, List.set_cons_zero, List.set_cons_succ]
        exact rfl
      refine WQ.gen (v := ?_) (by kernel_rfl) ?_ ?_
      rotate_left
      · intro W hC
        go_simp
        try with_reducible rfl
      refine WQ.eq (a' := ?_) ?_ ?_
      rotate_left
      · try simp only [Act.put, List.setIfInBounds_toArray, List.set_cons_zero, List.set_cons_succ]
        exact rfl
      refine WQ.skip (by kernel_rfl) ?_
      refine WQ.eq (a' := ?_) ?_ ?_
      rotate_left
      · try simp only [Act.put, List.setIfInBounds_toArray, List.set_cons_zero, List.set_cons_succ]
        exact rfl
      refine WQ.skip (by kernel_rfl) ?_
      refine WQ.eq (a' := ?_) ?_ ?_
      rotate_left
      · try simp only [Act.put, List.setIfInBounds_toArray, List.set_cons_zero, List.set_cons_succ]
        exact rfl
      refine WQ.skip (by kernel_rfl) ?_
      refine WQ.eq (a' := ?_) ?_ ?_
      rotate_left
      · try simp only [Act.put, List.setIfInBounds_toArray, List.set_cons_zero, List.set_cons_succ]
        exact rfl
      refine WQ.skip (by kernel_rfl) ?_
      refine WQ.eq (a' := ?_) ?_ ?_
      rotate_left
      · try simp only [Act.put, List.setIfInBounds_toArray, List.set_cons_zero, List.set_cons_succ]
        exact rfl
      refine WQ.skip (by kernel_rfl) ?_
      refine WQ.eq (a' := ?_) ?_ ?_
      rotate_left
      · try simp only [Act.put, List.setIfInBounds_toArray, List.set_cons_zero, List.set_cons_succ]
        exact rfl
      refine WQ.skip (by kernel_rfl) ?_
      refine WQ.eq (a' := ?_) ?_ ?_
      rotate_left
      · try simp only [Act.put, List.setIfInBounds_toArray, List.set_cons_zero, List.set_cons_succ]
        exact rfl
      refine WQ.gen (v := ?_) (by kernel_rfl) ?_ ?_
      rotate_left
      · intro W hC
        go_simp
        try with_reducible rfl
      refine WQ.eq (a' := ?_) ?_ ?_
      rotate_left
      · try simp only [Act.put, List.setIfInBounds_toArray, List.set_cons_zero, List.set_cons_succ]
        exact rfl
      refine WQ.gen (v := ?_) (by kernel_rfl) ?_ ?_
      rotate_left
      · intro W hC
        go_simp
        try with_reducible rfl
      refine WQ.eq (a' := ?_) ?_ ?_
      rotate_left
      · try simp only [Act.put, List.setIfInBounds_toArray, List.set_cons_zero, List.set_cons_succ]
        exact rfl
      refine WQ.skip (by kernel_rfl) ?_
      refine WQ.eq (a' := ?_) ?_ ?_
      rotate_left
      · try simp only [Act.put, List.setIfInBounds_toArray, List.set_cons_zero, List.set_cons_succ]
        exact rfl
      refine WQ.skip (by kernel_rfl) ?_
      refine WQ.eq (a' := ?_) ?_ ?_
      rotate_left
      · try simp only [Act.put, List.setIfInBounds_toArray, List.set_cons_zero, List.set_cons_succ]
        exact rfl
      refine WQ.skip (by kernel_rfl) ?_
      refine WQ.eq (a' := ?_) ?_ ?_
      rotate_left
      · try simp only [Act.put, List.setIfInBounds_toArray, List.set_cons_zero, List.set_cons_succ]
        exact rfl
      refine WQ.skip (by kernel_rfl) ?_
      refine WQ.eq (a' := ?_) ?_ ?_
      rotate_left
      · try simp only [Act.put, List.setIfInBounds_toArray, List.set_cons_zero, List.set_cons_succ]
        exact rfl
      refine WQ.skip (by kernel_rfl) ?_
      refine WQ.eq (a' := ?_) ?_ ?_
      rotate_left
      · try simp only [Act.put, List.setIfInBounds_toArray, List.set_cons_zero, List.set_cons_succ]
        exact rfl
      refine WQ.skip (by kernel_rfl) ?_
      refine WQ.eq (a' := ?_) ?_ ?_
      rotate_left
      · try simp only [Act.put, List.setIfInBounds_toArray, List.set_cons_zero, List.set_cons_succ]
        exact rfl
      refine WQ.skip (by kernel_rfl) ?_
      refine WQ.eq (a' := ?_) ?_ ?_
      rotate_left
      · try simp only [Act.put, List.setIfInBounds_toArray, List.set_cons_zero, List.set_cons_succ]
        exact rfl
      refine WQ.skip (by kernel_rfl) ?_
      refine WQ.eq (a' := ?_) ?_ ?_
      rotate_left
      · try simp only [Act.put, List.setIfInBounds_toArray, List.set_cons_zero, List.set_cons_succ]
        exact rfl
      refine WQ.skip (by kernel_rfl) ?_
      refine WQ.eq (a' := ?_) ?_ ?_
      rotate_left
      · try simp only [Act.put, List.setIfInBounds_toArray, List.set_cons_zero, List.set_cons_succ]
        exact rfl
      refine WQ.gen (v := ?_) (by kernel_rfl) ?_ ?_
      rotate_left
      · intro W hC
        go_simp
        try with_reducible rfl
      refine WQ.eq (a' := ?_) ?_ ?_
      rotate_left
      · try simp only [Act.put, List.setIfInBounds_toArray, List.set_cons_zero, List.set_cons_succ]
        exact rfl
      refine WQ.nil ?_
      intro w2 hB2
      have HB2 := Lib.hid hB2
      clear hB2
      go_wp2_with fail
      go_ret
      exact ⟨by rw [HF.out]; rfl, HB2.out⟩
end Go.Proofs.Ytbelofikknfoaaa
