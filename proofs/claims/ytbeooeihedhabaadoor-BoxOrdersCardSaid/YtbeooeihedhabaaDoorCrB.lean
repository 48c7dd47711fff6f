/- runs.same: what the call does. cavalcaderef07.match: what the call does. cavalcaderef07.best, Static: what the calls do. window.longest: what the call does. window: the places that are noted, and the longest match with one of them. -/
import Derived.Test.YtbeooeihedhabaaDoorCrA
import Derived.Test.YtbeooeihedhabaaDoorProg
import Derived.Test.YtbeooeihedhabaaDoorCQuiet
import Derived.Deep.LoopGhost
import Derived.Deep.QuietTactic
import Derived.BigQuiet
import Derived.WalkMore
import Derived.Deep.CutBlock
import Derived.Deep.DeepCutAuto
import Derived.Outline
import Derived.ScopeJumps
import Derived.Maps.OwnRows
namespace Go.Proofs.YtbeooeihedhabaaDoor
open Go.RowKit
set_option maxHeartbeats 1000000
set_option maxRecDepth 4000
/-- so many equal bytes stand at a place -/
def sameN (s : ByteArray) (a : Nat) : Nat := if h : a < s.size then runN (s[a]'h) 130 (s.data.toList.drop a) else 0
theorem sameN_is {s : ByteArray} {a n : Nat} (h : a < s.size) (h1 : n ≤ 130) (h2 : a + n ≤ s.size) (hj : ∀ j (hj : a + j < s.size), j < n → s[a + j]'hj = s[a]'h) (he : n = 130 ∨ a + n = s.size ∨ ∃ h3 : a + n < s.size, s[a + n]'h3 ≠ s[a]'h) : sameN s a = n := by
  have hl : s.data.toList.length = s.size := rfl
  rw [sameN, dif_pos h]
  refine runN_is _ 130 n _ h1 (by rw [List.length_drop, hl]; omega) (fun j h5 h6 => ?_) ?_
  · rw [List.getElem_drop]
    exact hj j (by rw [List.length_drop, hl] at h5; omega) h6
  · rcases he with he | he | ⟨h3, h4⟩
    · exact .inl he
    · exact .inr (.inl (by rw [List.length_drop, hl]; omega))
    · refine .inr (.inr ⟨by rw [List.length_drop, hl]; omega, ?_⟩)
      rw [List.getElem_drop]
      exact h4
theorem same_any (s : ByteArray) (a : Nat) (w : World) (hs : s.size ≤ 140737488355328) (ha : a < s.size) :
    Calls Tryd.prog 91 #[.string s, .int .i64 a] w fun e w' => e = .returned (.int .i64 (sameN s a)) ∧ Below w.heap.size w w' := by
  have H0 : Hid (∀ j (hj : a + j < s.size), j < 1 → s[a + j]'hj = s[a]'ha) := show ∀ j, _ from fun j hj hn => by
    have h : j = 0 := by omega
    subst h
    rfl
  go_enter Tryd.func91, Tryd.ntmps91
  go_wp2_with fail
  go_loopg [5] 129 (fun gk i wr => ∃ n : Nat, n + gk = 130 ∧ 1 ≤ n ∧ a + n ≤ s.size ∧ i = .int .i64 n ∧ Hid (∀ j (hj : a + j < s.size), j < n → s[a + j]'hj = s[a]'ha) ∧ Hid (Below w.heap.size w wr))
  case atStart => exact ⟨1, by omega, by omega, by omega, rfl, H0, Below.refl _ _⟩
  case round =>
    obtain ⟨n, hn, h1, hle, rfl, HJ, HB⟩ := hrel
    have f0 : (0 : Int) ≤ a := by omega
    have f1 : (a : Int) < s.size := by omega
    obtain ⟨k, hk⟩ : ∃ k, k = a + n := ⟨_, rfl⟩
    have e1 : IntKind.i64.wrap ((a : Int) + n) = (k : Int) := by rw [IntWalk.i64_in _ (by omega)]; omega
    have f2 : (0 : Int) ≤ (k : Int) := by omega
    have HK := Lib.hid hk
    by_cases h130 : n < 130
    · have d0 : decide ((n : Int) < 130) = true := decide_eq_true (by omega)
      by_cases hlt : k < s.size
      · have d1 : decide ((k : Int) < s.size) = true := decide_eq_true (by omega)
        have f3 : (k : Int) < s.size := by omega
        by_cases hc : s[k]'hlt = s[a]'ha
        · have d2 : (((s[k]'hlt).toNat : Int) == ((s[a]'ha).toNat : Int)) = true := by rw [hc]; simp
          have HC : Hid (∀ hj : a + n < s.size, s[a + n]'hj = s[a]'ha) := show ∀ hj, _ from by subst hk; exact fun _ => hc
          clear hk
          clear hc
          go_wp2_with fail
          refine wp_region_classW (fun W => Below w.heap.size w W) (by kernel_rfl) (by kernel_rfl) HB.out.drew ?_
          refine WQ.gen (v := ?_) (by kernel_rfl) ?_ ?_
          rotate_left
          · intro W hC
            go_simp
            try with_reducible rfl
          refine WQ.eq (a' := ?_) ?_ ?_
          rotate_left
          · try simp only [Act.put, List.setIfInBounds_toArray, List.set_cons_zero, List.set_cons_succ]
            exact rfl
          refine WQ.gen (v := ?_) (by kernel_rfl) ?_ ?_
          rotate_left
          · intro W hC
            go_simp
            try with_reducible rfl
          refine WQ.eq (a' := ?_) ?_ ?_
          rotate_left
          · try simp only [Act.put, List.setIfInBounds_toArray, List.set_cons_zero, List.set_cons_succ]
            exact rfl
          refine WQ.gen (v := ?_) (by kernel_rfl) ?_ ?_
          rotate_left
          · intro W hC
            go_simp
            try with_reducible rfl
          refine WQ.eq (a' := ?_) ?_ ?_
          rotate_left
          · try simp only [Act.put, List.setIfInBounds_toArray, List.set_cons_zero, List.set_cons_succ]
            exact rfl
          refine WQ.gen (v := ?_) (by kernel_rfl) ?_ ?_
          rotate_left
          · intro W hC
            go_simp
            try with_reducible rfl
          refine WQ.eq (a' := ?_) ?_ ?_
          rotate_left
          · try simp only [Act.put, List.setIfInBounds_toArray, List.set_cons_zero, List.set_cons_succ]
            exact rfl
          refine WQ.gen (v := ?_) (by kernel_rfl) ?_ ?_
          rotate_left
          · intro W hC
            go_simp
            try with_reducible rfl
          refine WQ.eq (a' := ?_) ?_ ?_
          rotate_left
          · try simp only [Act.put, List.setIfInBounds_toArray, List.set_cons_zero, List.set_cons_succ]
            exact rfl
          refine WQ.gen (v := ?_) (by kernel_rfl) ?_ ?_
          rotate_left
          · intro W hC
            go_simp
            try with_reducible rfl
          refine WQ.eq (a' := ?_) ?_ ?_
          rotate_left
          · try simp only [Act.put, List.setIfInBounds_toArray, List.set_cons_zero, List.set_cons_succ]
            exact rfl
          refine WQ.gen (v := ?_) (by kernel_rfl) ?_ ?_
          rotate_left
          · intro W hC
            go_simp
            try with_reducible rfl
          refine WQ.eq (a' := ?_) ?_ ?_
          rotate_left
          · try simp only [Act.put, List.setIfInBounds_toArray, List.set_cons_zero, List.set_cons_succ]
            exact rfl
          refine WQ.gen (v := ?_) (by kernel_rfl) ?_ ?_
          rotate_left
          · intro W hC
            go_simp
            try with_reducible rfl
          refine WQ.eq (a' := ?_) ?_ ?_
          rotate_left
          · try simp only [Act.put, List.setIfInBounds_toArray, List.set_cons_zero, List.set_cons_succ]
            exact rfl
          refine WQ.gen (v := ?_) (by kernel_rfl) ?_ ?_
          rotate_left
          · intro W hC
            go_simp
            try with_reducible rfl
          refine WQ.eq (a' := ?_) ?_ ?_
          rotate_left
          · try simp only [Act.put, List.setIfInBounds_toArray, List.set_cons_zero, List.set_cons_succ]
            exact rfl
          refine WQ.gen (v := ?_) (by kernel_rfl) ?_ ?_
          rotate_left
          · intro W hC
            go_simp
            try with_reducible rfl
          refine WQ.eq (a' := ?_) ?_ ?_
          rotate_left
          · try simp only [Act.put, List.setIfInBounds_toArray, List.set_cons_zero, List.set_cons_succ]
            exact rfl
          refine WQ.gen (v := ?_) (by kernel_rfl) ?_ ?_
          rotate_left
          · intro W hC
            go_simp
            try with_reducible rfl
          refine WQ.eq (a' := ?_) ?_ ?_
          rotate_left
          · try simp only [Act.put, List.setIfInBounds_toArray, List.set_cons_zero, List.set_cons_succ]
            exact rfl
          refine WQ.gen (v := ?_) (by kernel_rfl) ?_ ?_
          rotate_left
          · intro W hC
            go_simp
            try with_reducible rfl
          refine WQ.eq (a' := ?_) ?_ ?_
          rotate_left
          · try simp only [Act.put, List.setIfInBounds_toArray, List.set_cons_zero, List.set_cons_succ]
            exact rfl
          refine WQ.gen (v := ?_) (by kernel_rfl) ?_ ?_
          rotate_left
          · intro W hC
            go_simp
            try with_reducible rfl
          refine WQ.eq (a' := ?_) ?_ ?_
          rotate_left
          · try simp only [Act.put, List.setIfInBounds_toArray, List.set_cons_zero, List.set_cons_succ]
            exact rfl
          refine WQ.gen (v := ?_) (by kernel_rfl) ?_ ?_
          rotate_left
          · intro W hC
            go_simp
            try with_reducible rfl
          refine WQ.eq (a' := ?_) ?_ ?_
          rotate_left
          · try simp only [Act.put, List.setIfInBounds_toArray, List.set_cons_zero, List.set_cons_succ]
            exact rfl
          refine WQ.gen (v := ?_) (by kernel_rfl) ?_ ?_
          rotate_left
          · intro W hC
            go_simp
            try with_reducible rfl
          refine WQ.eq (a' := ?_) ?_ ?_
          rotate_left
          · try simp only [Act.put, List.setIfInBounds_toArray, List.set_cons_zero, List.set_cons_succ]
            exact rfl
          refine WQ.gen (v := ?_) (by kernel_rfl) ?_ ?_
          rotate_left
          · intro W hC
            go_simp
            try with_reducible rfl
          refine WQ.eq (a' := ?_) ?_ ?_
          rotate_left
          · try simp only [Act.put, List.setIfInBounds_toArray, List.set_cons_zero, List.set_cons_succ]
            exact rfl
          refine WQ.gen (v := ?_) (by kernel_rfl) ?_ ?_
          rotate_left
          · intro W hC
            go_simp
            try with_reducible rfl
          refine WQ.eq (a' := ?_) ?_ ?_
          rotate_left
          · try simp only [Act.put, List.setIfInBounds_toArray, List.set_cons_zero, List.set_cons_succ]
            exact rfl
          refine WQ.gen (v := ?_) (by kernel_rfl) ?_ ?_
          rotate_left
          · intro W hC
            go_simp
            try with_reducible rfl
          refine WQ.eq (a' := ?_) ?_ ?_
          rotate_left
          · try simp only [Act.put, List.setIfInBounds_toArray, List.set_cons_zero, List.set_cons_succ]
            exact rfl
          refine WQ.gen (v := ?_) (by kernel_rfl) ?_ ?_
          rotate_left
          · intro W hC
            go_simp
            try with_reducible rfl
          refine WQ.eq (a' := ?_) ?_ ?_
          rotate_left
          · try simp only [Act.put, List.setIfInBounds_toArray, List.set_cons_zero, List.set_cons_succ]
            exact rfl
          refine WQ.gen (v := ?_) (by kernel_rfl) ?_ ?_
          rotate_left
          · intro W hC
            go_simp
            try with_reducible rfl
          refine WQ.eq (a' := ?_) ?_ ?_
          rotate_left
          · try simp only [Act.put, List.setIfInBounds_toArray, List.set_cons_zero, List.set_cons_succ]
            exact rfl
          refine WQ.gen (v := ?_) (by kernel_rfl) ?_ ?_
          rotate_left
          · intro W hC
            go_simp
            try with_reducible rfl
          refine WQ.eq (a' := ?_) ?_ ?_
          rotate_left
          · try simp only [Act.put, List.setIfInBounds_toArray, List.set_cons_zero, List.set_cons_succ]
            exact rfl
          refine WQ.nil ?_
          intro w2 hB2
          have HB2 := Lib.hid hB2
          clear hB2
          go_wp2_with fail
          go_roundg (gk - 1)
          case measure => omega
          case rel => exact ⟨n + 1, by omega, by omega, by have := HK.out; omega, by go_num, show ∀ j, _ from fun j hj hjn => (Nat.lt_succ_iff_lt_or_eq.1 hjn).elim (HJ.out j hj) (fun h => by subst h; exact HC.out hj), HB2⟩
        · have d2 : (((s[k]'hlt).toNat : Int) == ((s[a]'ha).toNat : Int)) = false := by
            rw [beq_eq_false_iff_ne]
            intro h
            exact hc (UInt8.toNat_inj.1 (by omega))
          have HF : Hid (sameN s a = n) := show _ = _ from by subst hk; exact sameN_is ha (by omega) hle HJ.out (.inr (.inr ⟨hlt, hc⟩))
          clear hc hk
          go_wp2_with fail
          refine wp_region_classW (fun W => Below w.heap.size w W) (by kernel_rfl) (by kernel_rfl) HB.out.drew ?_
          refine WQ.gen (v := ?_) (by kernel_rfl) ?_ ?_
          rotate_left
          · intro W hC
            go_simp
            try with_reducible rfl
          refine WQ.eq (a' := ?_) ?_ ?_
          rotate_left
          · try simp only [Act.put, List.setIfInBounds_toArray, List.set_cons_zero, List.set_cons_succ]
            exact rfl
          refine WQ.gen (v := ?_) (by kernel_rfl) ?_ ?_
          rotate_left
          · intro W hC
            go_simp
            try with_reducible rfl
          refine WQ.eq (a' := ?_) ?_ ?_
          rotate_left
          · try simp only [Act.put, List.setIfInBounds_toArray, List.set_cons_zero, List.set_cons_succ]
            exact rfl
          refine WQ.gen (v := ?_) (by kernel_rfl) ?_ ?_
          rotate_left
          · intro W hC
            go_simp
            try with_reducible rfl
          refine WQ.eq (a' := ?_) ?_ ?_
          rotate_left
          · try simp only [Act.put, List.setIfInBounds_toArray, List.set_cons_zero, List.set_cons_succ]
            exact rfl
          refine WQ.gen (v := ?_) (by kernel_rfl) ?_ ?_
          rotate_left
          · intro W hC
            go_simp
            try with_reducible rfl
          refine WQ.eq (a' := ?_) ?_ ?_
          rotate_left
          · try simp only [Act.put, List.setIfInBounds_toArray, List.set_cons_zero, List.set_cons_succ]
            exact rfl
          refine WQ.gen (v := ?_) (by kernel_rfl) ?_ ?_
          rotate_left
          · intro W hC
            go_simp
            try with_reducible rfl
          refine WQ.eq (a' := ?_) ?_ ?_
          rotate_left
          · try simp only [Act.put, List.setIfInBounds_toArray, List.set_cons_zero, List.set_cons_succ]
            exact rfl
          refine WQ.gen (v := ?_) (by kernel_rfl) ?_ ?_
          rotate_left
          · intro W hC
            go_simp
            try with_reducible rfl
          refine WQ.eq (a' := ?_) ?_ ?_
          rotate_left
          · try simp only [Act.put, List.setIfInBounds_toArray, List.set_cons_zero, List.set_cons_succ]
            exact rfl
          refine WQ.gen (v := ?_) (by kernel_rfl) ?_ ?_
          rotate_left
          · intro W hC
            go_simp
            try with_reducible rfl
          refine WQ.eq (a' := ?_) ?_ ?_
          rotate_left
          · try simp only [Act.put, List.setIfInBounds_toArray, List.set_cons_zero, List.set_cons_succ]
            exact rfl
          refine WQ.gen (v := ?_) (by kernel_rfl) ?_ ?_
          rotate_left
          · intro W hC
            go_simp
            try with_reducible rfl
          refine WQ.eq (a' := ?_) ?_ ?_
          rotate_left
          · try simp only [Act.put, List.setIfInBounds_toArray, List.set_cons_zero, List.set_cons_succ]
            exact rfl
          refine WQ.gen (v := ?_) (by kernel_rfl) ?_ ?_
          rotate_left
          · intro W hC
            go_simp
            try with_reducible rfl
          refine WQ.eq (a' := ?_) ?_ ?_
          rotate_left
          · try simp only [Act.put, List.setIfInBounds_toArray, List.set_cons_zero, List.set_cons_succ]
            exact rfl
          refine WQ.gen (v := ?_) (by kernel_rfl) ?_ ?_
          rotate_left
          · intro W hC
            go_simp
            try with_reducible rfl
          refine WQ.eq (a' := ?_) ?_ ?_
          rotate_left
          · try simp only [Act.put, List.setIfInBounds_toArray, List.set_cons_zero, List.set_cons_succ]
            exact rfl
          refine WQ.gen (v := ?_) (by kernel_rfl) ?_ ?_
          rotate_left
          · intro W hC
            go_simp
            try with_reducible rfl
          refine WQ.eq (a' := ?_) ?_ ?_
          rotate_left
          · try simp only [Act.put, List.setIfInBounds_toArray, List.set_cons_zero, List.set_cons_succ]
            exact rfl
          refine WQ.gen (v := ?_) (by kernel_rfl) ?_ ?_
          rotate_left
          · intro W hC
            go_simp
            try with_reducible rfl
          refine WQ.eq (a' := ?_) ?_ ?_
          rotate_left
          · try simp only [Act.put, List.setIfInBounds_toArray, List.set_cons_zero, List.set_cons_succ]
            exact rfl
          refine WQ.gen (v := ?_) (by kernel_rfl) ?_ ?_
          rotate_left
          · intro W hC
            go_simp
            try with_reducible rfl
          refine WQ.eq (a' := ?_) ?_ ?_
          rotate_left
          · try simp only [Act.put, List.setIfInBounds_toArray, List.set_cons_zero, List.set_cons_succ]
            exact rfl
          refine WQ.gen (v := ?_) (by kernel_rfl) ?_ ?_
          rotate_left
          · intro W hC
            go_simp
            try with_reducible rfl
          refine WQ.eq (a' := ?_) ?_ ?_
          rotate_left
          · try simp only [Act.put, List.setIfInBounds_toArray, List.set_cons_zero, List.set_cons_succ]
            exact rfl
          refine WQ.gen (v := ?_) (by kernel_rfl) ?_ ?_
          rotate_left
          · intro W hC
            go_simp
            try with_reducible rfl
          refine WQ.eq (a' := ?_) ?_ ?_
          rotate_left
          · try simp only [Act.put, List.setIfInBounds_toArray, List.set_cons_zero, List.set_cons_succ]
            exact rfl
          refine WQ.gen (v := ?_) (by kernel_rfl) ?_ ?_
          rotate_left
          · intro W hC
            go_simp
            try with_reducible rfl
          refine WQ.eq (a' := ?_) ?_ ?_
          rotate_left
          · try simp only [Act.put, List.setIfInBounds_toArray, List.set_cons_zero, List.set_cons_succ]
            exact rfl
          refine WQ.gen (v := ?_) (by kernel_rfl) ?_ ?_
          rotate_left
          · intro W hC
            go_simp
            try with_reducible rfl
          refine WQ.eq (a' := ?_) ?_ ?_
          rotate_left
          · try simp only [Act.put, List.setIfInBounds_toArray, List.set_cons_zero, List.set_cons_succ]
            exact rfl
          refine WQ.gen (v := ?_) (by kernel_rfl) ?_ ?_
          rotate_left
          · intro W hC
            go_simp
            try with_reducible rfl
          refine WQ.eq (a' := ?_) ?_ ?_
          rotate_left
          · try simp only [Act.put, List.setIfInBounds_toArray, List.set_cons_zero, List.set_cons_succ]
            exact rfl
          refine WQ.gen (v := ?_) (by kernel_rfl) ?_ ?_
          rotate_left
          · intro W hC
            go_simp
            try with_reducible rfl
          refine WQ.eq (a' := ?_) ?_ ?_
          rotate_left
          · try simp only [Act.put, List.setIfInBounds_toArray, List.set_cons_zero, List.set_cons_succ]
            exact rfl
          refine WQ.gen (v := ?_) (by kernel_rfl) ?_ ?_
          rotate_left
          · intro W hC
            go_simp
            try with_reducible rfl
          refine WQ.eq (a' := ?_) ?_ ?_
          rotate_left
          · try simp only [Act.put, List.setIfInBounds_toArray, List.set_cons_zero, List.set_cons_succ]
            exact rfl
          refine WQ.gen (v := ?_) (by kernel_rfl) ?_ ?_
          rotate_left
          · intro W hC
            go_simp
            try with_reducible rfl
          refine WQ.eq (a' := ?_) ?_ ?_
          rotate_left
          · try simp only [Act.put, List.setIfInBounds_toArray, List.set_cons_zero, List.set_cons_succ]
            exact rfl
          refine WQ.nil ?_
          intro w2 hB2
          have HB2 := Lib.hid hB2
          clear hB2
          go_wp2_with fail
          go_ret
          exact ⟨by rw [HF.out]; rfl, HB2.out⟩
      · have d1 : decide ((k : Int) < s.size) = false := decide_eq_false (by omega)
        have HF : Hid (sameN s a = n) := show _ = _ from sameN_is ha (by omega) hle HJ.out (.inr (.inl (by omega)))
        clear hk
        go_wp2_with fail
        refine wp_region_classW (fun W => Below w.heap.size w W) (by kernel_rfl) (by kernel_rfl) HB.out.drew ?_
        refine WQ.gen (v := ?_) (by kernel_rfl) ?_ ?_
        rotate_left
        · intro W hC
          go_simp
          try with_reducible rfl
        refine WQ.eq (a' := ?_) ?_ ?_
        rotate_left
        · try simp only [Act.put, List.setIfInBounds_toArray, List.set_cons_zero, List.set_cons_succ]
          exact rfl
        refine WQ.gen (v := ?_) (by kernel_rfl) ?_ ?_
        rotate_left
        · intro W hC
          go_simp
          try with_reducible rfl
        refine WQ.eq (a' := ?_) ?_ ?_
        rotate_left
        · try simp only [Act.put, List.setIfInBounds_toArray, List.set_cons_zero, List.set_cons_succ]
          exact rfl
        refine WQ.gen (v := ?_) (by kernel_rfl) ?_ ?_
        rotate_left
        · intro W hC
          go_simp
          try with_reducible rfl
        refine WQ.eq (a' := ?_) ?_ ?_
        rotate_left
        · try simp only [Act.put, List.setIfInBounds_toArray, List.set_cons_zero, List.set_cons_succ]
          exact rfl
        refine WQ.gen (v := ?_) (by kernel_rfl) ?_ ?_
        rotate_left
        · intro W hC
          go_simp
          try with_reducible rfl
        refine WQ.eq (a' := ?_) ?_ ?_
        rotate_left
        · try simp only [Act.put, List.setIfInBounds_toArray, List.set_cons_zero, List.set_cons_succ]
          exact rfl
        refine WQ.gen (v := ?_) (by kernel_rfl) ?_ ?_
        rotate_left
        · intro W hC
          go_simp
          try with_reducible rfl
        refine WQ.eq (a' := ?_) ?_ ?_
        rotate_left
        · try simp only [Act.put, List.setIfInBounds_toArray, List.set_cons_zero, List.set_cons_succ]
          exact rfl
        refine WQ.gen (v := ?_) (by kernel_rfl) ?_ ?_
        rotate_left
        · intro W hC
          go_simp
          try with_reducible rfl
        refine WQ.eq (a' := ?_) ?_ ?_
        rotate_left
        · try simp only [Act.put, List.setIfInBounds_toArray, List.set_cons_zero, List.set_cons_succ]
          exact rfl
        refine WQ.gen (v := ?_) (by kernel_rfl) ?_ ?_
        rotate_left
        · intro W hC
          go_simp
          try with_reducible rfl
        refine WQ.eq (a' := ?_) ?_ ?_
        rotate_left
        · try simp only [Act.put, List.setIfInBounds_toArray, List.set_cons_zero, List.set_cons_succ]
          exact rfl
        refine WQ.gen (v := ?_) (by kernel_rfl) ?_ ?_
        rotate_left
        · intro W hC
          go_simp
          try with_reducible rfl
        refine WQ.eq (a' := ?_) ?_ ?_
        rotate_left
        · try simp only [Act.put, List.setIfInBounds_toArray, List.set_cons_zero, List.set_cons_succ]
          exact rfl
        refine WQ.gen (v := ?_) (by kernel_rfl) ?_ ?_
        rotate_left
        · intro W hC
          go_simp
          try with_reducible rfl
        refine WQ.eq (a' := ?_) ?_ ?_
        rotate_left
        · try simp only [Act.put, List.setIfInBounds_toArray, List.set_cons_zero, List.set_cons_succ]
          exact rfl
        refine WQ.gen (v := ?_) (by kernel_rfl) ?_ ?_
        rotate_left
        · intro W hC
          go_simp
          try with_reducible rfl
        refine WQ.eq (a' := ?_) ?_ ?_
        rotate_left
        · try simp only [Act.put, List.setIfInBounds_toArray, List.set_cons_zero, List.set_cons_succ]
          exact rfl
        refine WQ.gen (v := ?_) (by kernel_rfl) ?_ ?_
        rotate_left
        · intro W hC
          go_simp
          try with_reducible rfl
        refine WQ.eq (a' := ?_) ?_ ?_
        rotate_left
        · try simp only [Act.put, List.setIfInBounds_toArray, List.set_cons_zero, List.set_cons_succ]
          exact rfl
        refine WQ.skip (by kernel_rfl) ?_
        refine WQ.eq (a' := ?_) ?_ ?_
        rotate_left
        · try simp only [Act.put, List.setIfInBounds_toArray, List.set_cons_zero, List.set_cons_succ]
          exact rfl
        refine WQ.skip (by kernel_rfl) ?_
        refine WQ.eq (a' := ?_) ?_ ?_
        rotate_left
        · try simp only [Act.put, List.setIfInBounds_toArray, List.set_cons_zero, List.set_cons_succ]
          exact rfl
        refine WQ.skip (by kernel_rfl) ?_
        refine WQ.eq (a' := ?_) ?_ ?_
        rotate_left
        · try simp only [Act.put, List.setIfInBounds_toArray, List.set_cons_zero, List.set_cons_succ]
          exact rfl
        refine WQ.skip (by kernel_rfl) ?_
        refine WQ.eq (a' := ?_) ?_ ?_
        rotate_left
        · try simp only [Act.put, List.setIfInBounds_toArray, List.set_cons_zero, List.set_cons_succ]
          exact rfl
        refine WQ.skip (by kernel_rfl) ?_
        refine WQ.eq (a' := ?_) ?_ ?_
        rotate_left
        · try simp only [Act.put, List.setIfInBounds_toArray, List.set_cons_zero, List.set_cons_succ]
          exact rfl
        refine WQ.skip (by kernel_rfl) ?_
        refine WQ.eq (a' := ?_) ?_ ?_
        rotate_left
        · try simp only [Act.put, List.setIfInBounds_toArray, List.set_cons_zero, List.set_cons_succ]
          exact rfl
        refine WQ.skip (by kernel_rfl) ?_
        refine WQ.eq (a' := ?_) ?_ ?_
        rotate_left
        · try simp only [Act.put, List.setIfInBounds_toArray, List.set_cons_zero, List.set_cons_succ]
          exact rfl
        refine WQ.skip (by kernel_rfl) ?_
        refine WQ.eq (a' := ?_) ?_ ?_
        rotate_left
        · try simp only [Act.put, List.setIfInBounds_toArray, List.set_cons_zero, List.set_cons_succ]
          exact rfl
        refine WQ.skip (by kernel_rfl) ?_
        refine WQ.eq (a' := ?_) ?_ ?_
        rotate_left
        · try simp only [Act.put, List.setIfInBounds_toArray, List.set_cons_zero, List.set_cons_succ]
          exact rfl
        refine WQ.gen (v := ?_) (by kernel_rfl) ?_ ?_
        rotate_left
        · intro W hC
          go_simp
          try with_reducible rfl
        refine WQ.eq (a' := ?_) ?_ ?_
        rotate_left
        · try simp only [Act.put, List.setIfInBounds_toArray, List.set_cons_zero, List.set_cons_succ]
          exact rfl
        refine WQ.nil ?_
        intro w2 hB2
        have HB2 := Lib.hid hB2
        clear hB2
        go_wp2_with fail
        go_ret
        exact ⟨by rw [HF.out]; rfl, HB2.out⟩
    · have d0 : decide ((n : Int) < 130) = false := decide_eq_false (by omega)
      have HF : Hid (sameN s a = n) := show _ = _ from sameN_is ha (by omega) hle HJ.out (.inl (by omega))
      go_wp2_with fail
      refine wp_region_classW (fun W => Below w.heap.size w W) (by kernel_rfl) (by kernel_rfl) HB.out.drew ?_
      refine WQ.gen (v := ?_) (by kernel_rfl) ?_ ?_
      rotate_left
      · intro W hC
        go_simp
        try with_reducible rfl
      refine WQ.eq (a' := ?_) ?_ ?_
      rotate_left
      · try simp only [Act.put, List.setIfInBounds_toArray, List.set_cons_zero, List.set_cons_succ]
        exact rfl
      refine WQ.gen (v := ?_) (by kernel_rfl) ?_ ?_
      rotate_left
      · intro W hC
        go_simp
        try with_reducible rfl
      refine WQ.eq (a' := ?_) ?_ ?_
      rotate_left
      · try simp only [Act.put, List.setIfInBounds_toArray, List.set_cons_zero, List.set_cons_succ]
        exact rfl
      refine WQ.gen (v := ?_) (by kernel_rfl) ?_ ?_
      rotate_left
      · intro W hC
        go_simp
        try with_reducible rfl
      refine WQ.eq (a' := ?_) ?_ ?_
      rotate_left
      · try simp only [Act.put, List.setIfInBounds_toArray, List.set_cons_zero, List.set_cons_succ]
        exact rfl
      refine WQ.skip (by kernel_rfl) ?_
      refine WQ.eq (a' := ?_) ?_ ?_
      rotate_left
      · try simp only [Act.put, List.setIfInBounds_toArray, List.set_cons_zero, List.set_cons_succ]
        exact rfl
      refine WQ.skip (by kernel_rfl) ?_
      refine WQ.eq (a' := ?_) ?_ ?_
      rotate_left
      · try simp only [Act.put, List.setIfInBounds_toArray, List.set_cons_zero, List.set_cons_succ]
        exact rfl
      refine WQ.skip (by kernel_rfl) ?_
      refine WQ.eq (a' := ?_) ?_ ?_
      rotate_left
      · try simp only [Act.put, List.setIfInBounds_toArray, List.set_cons_zero, List.set_cons_succ]
        exact rfl
      refine WQ.skip (by kernel_rfl) ?_
      refine WQ.eq (a' := ?_) ?_ ?_
      rotate_left
      · try simp only [Act.put, List.setIfInBounds_toArray, List.set_cons_zero, List.set_cons_succ]
        exact rfl
      refine WQ.skip (by kernel_rfl) ?_
      refine WQ.eq (a' := ?_) ?_ ?_
      rotate_left
      · try simp only [Act.put, List.setIfInBounds_toArray, List.set_cons_zero, List.set_cons_succ]
        exact rfl
      refine WQ.skip (by kernel_rfl) ?_
      refine WQ.eq (a' := ?_) ?_ ?_
      rotate_left
      · try simp only [Act.put, List.setIfInBounds_toArray, List.set_cons_zero, List.set_cons_succ]
        exact rfl
      refine WQ.gen (v := ?_) (by kernel_rfl) ?_ ?_
      rotate_left
      · intro W hC
        go_simp
        try with_reducible rfl
      refine WQ.eq (a' := ?_) ?_ ?_
      rotate_left
      · try simp only [Act.put, List.setIfInBounds_toArray, List.set_cons_zero, List.set_cons_succ]
        exact rfl
      refine WQ.gen (v := ?_) (by kernel_rfl) ?_ ?_
      rotate_left
      · intro W hC
        go_simp
        try with_reducible rfl
      refine WQ.eq (a' := ?_) ?_ ?_
      rotate_left
      · try simp only [Act.put, List.setIfInBounds_toArray, List.set_cons_zero, List.set_cons_succ]
        exact rfl
      refine WQ.skip (by kernel_rfl) ?_
      refine WQ.eq (a' := ?_) ?_ ?_
      rotate_left
      · try simp only [Act.put, List.setIfInBounds_toArray, List.set_cons_zero, List.set_cons_succ]
        exact rfl
      refine WQ.skip (by kernel_rfl) ?_
      refine WQ.eq (a' := ?_) ?_ ?_
      rotate_left
      · try simp only [Act.put, List.setIfInBounds_toArray, List.set_cons_zero, List.set_cons_succ]
        exact rfl
      refine WQ.skip (by kernel_rfl) ?_
      refine WQ.eq (a' := ?_) ?_ ?_
      rotate_left
      · try simp only [Act.put, List.setIfInBounds_toArray, List.set_cons_zero, List.set_cons_succ]
        exact rfl
      refine WQ.skip (by kernel_rfl) ?_
      refine WQ.eq (a' := ?_) ?_ ?_
      rotate_left
      · try simp only [Act.put, List.setIfInBounds_toArray, List.set_cons_zero, List.set_cons_succ]
        exact rfl
      refine WQ.skip (by kernel_rfl) ?_
      refine WQ.eq (a' := ?_) ?_ ?_
      rotate_left
      · try simp only [Act.put, List.setIfInBounds_toArray, List.set_cons_zero, List.set_cons_succ]
        exact rfl
      refine WQ.skip (by kernel_rfl) ?_
      refine WQ.eq (a' := ?_) ?_ ?_
      rotate_left
      · try simp only [Act.put, List.setIfInBounds_toArray, List.set_cons_zero, List.set_cons_succ]
        exact rfl
      refine WQ.skip (by kernel_rfl) ?_
      refine WQ.eq (a' := ?_) ?_ ?_
      rotate_left
      · try simp only [Act.put, List.setIfInBounds_toArray, List.set_cons_zero, List.set_cons_succ]
        exact rfl
      refine WQ.skip (by kernel_rfl) ?_
      refine WQ.eq (a' := ?_) ?_ ?_
      rotate_left
      · try simp only [Act.put, List.setIfInBounds_toArray, List.set_cons_zero, List.set_cons_succ]
        exact rfl
      refine WQ.skip (by kernel_rfl) ?_
      refine WQ.eq (a' := ?_) ?_ ?_
      rotate_left
      · try simp only [Act.put, List.setIfInBounds_toArray, List.set_cons_zero, List.set_cons_succ]
        exact rfl
      refine WQ.gen (v := ?_) (by kernel_rfl) ?_ ?_
      rotate_left
      · intro W hC
        go_simp
        try with_reducible rfl
      refine WQ.eq (a' := ?_) ?_ ?_
      rotate_left
      · try simp only [Act.put, List.setIfInBounds_toArray, List.set_cons_zero, List.set_cons_succ]
        exact rfl
      refine WQ.nil ?_
      intro w2 hB2
      have HB2 := Lib.hid hB2
      clear hB2
      go_wp2_with fail
      go_ret
      exact ⟨by rw [HF.out]; rfl, HB2.out⟩
open Go.RowKit
set_option maxHeartbeats 1000000
set_option maxRecDepth 4000
/-- so many bytes are alike, at most k -/
def eqN : Nat → List UInt8 → List UInt8 → Nat
  | 0, _, _ => 0
  | _, [], _ => 0
  | _, _, [] => 0
  | k + 1, x :: l, y :: r => if x = y then eqN k l r + 1 else 0
theorem eqN_is : ∀ (k m : Nat) (l r : List UInt8), m ≤ k → m ≤ l.length → l.length ≤ r.length → (∀ j (h : j < l.length) (h' : j < r.length), j < m → l[j]'h = r[j]'h') → (m = k ∨ m = l.length ∨ ∃ (h : m < l.length) (h' : m < r.length), l[m]'h ≠ r[m]'h') → eqN k l r = m
  | 0, m, l, r, h1, _, _, _, _ => by simp [eqN]; omega
  | k + 1, m, [], r, _, h2, _, _, _ => by simp [eqN]; simp at h2; omega
  | k + 1, m, x :: l, [], _, _, h3, _, _ => by simp at h3
  | k + 1, 0, x :: l, y :: r, _, _, _, _, he => by
    rcases he with he | he | ⟨h, h', he⟩
    · omega
    · simp at he
    · simp at he
      simp [eqN, he]
  | k + 1, m + 1, x :: l, y :: r, h1, h2, h3, hj, he => by
    have h0 := hj 0 (by simp) (by simp) (by omega)
    simp only [List.getElem_cons_zero] at h0
    simp only [List.length_cons] at h2 h3
    have ih := eqN_is k m l r (by omega) (by omega) (by omega) (fun j h h' hm => by
      have := hj (j + 1) (by simp; omega) (by simp; omega) (by omega)
      simpa using this) (by
      rcases he with he | he | ⟨h, h', he⟩
      · exact .inl (by omega)
      · exact .inr (.inl (by simp at he; omega))
      · exact .inr (.inr ⟨by simp at h; omega, by simp at h'; omega, by simpa using he⟩))
    simp [eqN, h0, ih]
theorem eqN_le : ∀ (k : Nat) (l r : List UInt8), eqN k l r ≤ k ∧ eqN k l r ≤ l.length ∧ eqN k l r ≤ r.length
  | 0, l, r => by simp [eqN]
  | k + 1, [], r => by simp [eqN]
  | k + 1, x :: l, [] => by simp [eqN]
  | k + 1, x :: l, y :: r => by
    have := eqN_le k l r
    simp only [eqN, List.length_cons]
    split <;> omega
theorem eqN_at : ∀ (k : Nat) (l r : List UInt8) (j : Nat) (_h : j < eqN k l r) (h1 : j < l.length) (h2 : j < r.length), l[j]'h1 = r[j]'h2
  | 0, l, r, j, h, _, _ => by simp [eqN] at h
  | k + 1, [], r, j, h, _, _ => by simp [eqN] at h
  | k + 1, x :: l, [], j, h, _, _ => by simp [eqN] at h
  | k + 1, x :: l, y :: r, j, h, h1, h2 => by
    simp only [eqN] at h
    split at h
    · rename_i hxy
      cases j with
      | zero => simpa using hxy
      | succ j => simpa using eqN_at k l r j (by omega) (by simp at h1; omega) (by simp at h2; omega)
    · omega
/-- the match of a place with an earlier one -/
def mch (s : ByteArray) (a y : Nat) : Nat := eqN 130 (s.data.toList.drop a) (s.data.toList.drop y)
theorem mch_le {s : ByteArray} {a : Nat} (ha : a ≤ s.size) (y : Nat) : mch s a y ≤ 130 ∧ a + mch s a y ≤ s.size := by
  have hl : s.data.toList.length = s.size := rfl
  have h := eqN_le 130 (s.data.toList.drop a) (s.data.toList.drop y)
  rw [List.length_drop, hl] at h
  unfold mch
  omega
theorem mch_is {s : ByteArray} {a y n : Nat} (hy : y ≤ a) (h1 : n ≤ 130) (h2 : a + n ≤ s.size) (hj : ∀ j (hj : a + j < s.size) (hi : y + j < s.size), j < n → s[a + j]'hj = s[y + j]'hi) (he : n = 130 ∨ a + n = s.size ∨ ∃ (h3 : a + n < s.size) (h4 : y + n < s.size), s[a + n]'h3 ≠ s[y + n]'h4) : mch s a y = n := by
  have hl : s.data.toList.length = s.size := rfl
  refine eqN_is 130 n _ _ h1 (by rw [List.length_drop, hl]; omega) (by rw [List.length_drop, List.length_drop]; omega) (fun j h h' h6 => ?_) ?_
  · rw [List.getElem_drop, List.getElem_drop]
    exact hj j (by rw [List.length_drop, hl] at h; omega) (by rw [List.length_drop, hl] at h; omega) h6
  · rcases he with he | he | ⟨h3, h4, h5⟩
    · exact .inl he
    · exact .inr (.inl (by rw [List.length_drop, hl]; omega))
    · refine .inr (.inr ⟨by rw [List.length_drop, hl]; omega, by rw [List.length_drop, hl]; omega, ?_⟩)
      rw [List.getElem_drop, List.getElem_drop]
      exact h5
theorem match_any (s : ByteArray) (a b : Nat) (w : World) (hs : s.size ≤ 140737488355328) (ha : a ≤ s.size) (hb : 1 ≤ b) (hba : b ≤ a) :
    Calls Tryd.prog 89 #[.string s, .int .i64 a, .int .i64 b] w fun e w' => e = .returned (.int .i64 (mch s a (a - b))) ∧ Below w.heap.size w w' := by
  obtain ⟨y, hyb⟩ : ∃ y, y = a - b := ⟨_, rfl⟩
  rw [← hyb]
  have hy : y + b = a := by omega
  clear hyb
  have HY := Lib.hid hy
  have hya : y + 1 ≤ a := by omega
  have H0 : Hid (∀ j (hj : a + j < s.size) (hi : y + j < s.size), j < 0 → s[a + j]'hj = s[y + j]'hi) := show ∀ j, _ from fun j hj hi hn => by omega
  clear hy
  go_enter Tryd.func89, Tryd.ntmps89
  go_wp2_with fail
  go_loopg [7] 130 (fun gk i wr => ∃ n : Nat, n + gk = 130 ∧ a + n ≤ s.size ∧ i = .int .i64 n ∧ Hid (∀ j (hj : a + j < s.size) (hi : y + j < s.size), j < n → s[a + j]'hj = s[y + j]'hi) ∧ Hid (Below w.heap.size w wr))
  case atStart => exact ⟨0, by omega, by omega, rfl, H0, Below.refl _ _⟩
  case round =>
    obtain ⟨n, hn, hle, rfl, HJ, HB⟩ := hrel
    obtain ⟨k, hk⟩ : ∃ k, k = a + n := ⟨_, rfl⟩
    obtain ⟨x, hx⟩ : ∃ x, x = y + n := ⟨_, rfl⟩
    have e1 : IntKind.i64.wrap ((a : Int) + n) = (k : Int) := by rw [IntWalk.i64_in _ (by omega)]; omega
    have e2 : IntKind.i64.wrap ((k : Int) - b) = (x : Int) := by have := HY.out; rw [IntWalk.i64_in _ (by omega)]; omega
    have f0 : (0 : Int) ≤ (x : Int) := by omega
    have f2 : (0 : Int) ≤ (k : Int) := by omega
    have HK := Lib.hid hk
    by_cases h130 : n < 130
    · have d0 : decide ((n : Int) < 130) = true := decide_eq_true (by omega)
      by_cases hlt : k < s.size
      · have d1 : decide ((k : Int) < s.size) = true := decide_eq_true (by omega)
        have f3 : (k : Int) < s.size := by omega
        have hlx : x < s.size := by omega
        have f4 : (x : Int) < s.size := by omega
        by_cases hc : s[k]'hlt = s[x]'hlx
        · have d2 : (((s[k]'hlt).toNat : Int) == ((s[x]'hlx).toNat : Int)) = true := by rw [hc]; simp
          have HC : Hid (∀ (hj : a + n < s.size) (hi : y + n < s.size), s[a + n]'hj = s[y + n]'hi) := show ∀ hj, _ from by subst hk hx; exact fun _ _ => hc
          clear hk hx hc
          go_wp2_with fail
          refine wp_region_classW (fun W => Below w.heap.size w W) (by kernel_rfl) (by kernel_rfl) HB.out.drew ?_
          refine WQ.gen (v := ?_) (by kernel_rfl) ?_ ?_
          rotate_left
          · intro W hC
            go_simp
            try with_reducible rfl
          refine WQ.eq (a' := ?_) ?_ ?_
          rotate_left
          · try simp only [Act.put, List.setIfInBounds_toArray, List.set_cons_zero, List.set_cons_succ]
            exact rfl
          refine WQ.gen (v := ?_) (by kernel_rfl) ?_ ?_
          rotate_left
          · intro W hC
            go_simp
            try with_reducible rfl
          refine WQ.eq (a' := ?_) ?_ ?_
          rotate_left
          · try simp only [Act.put, List.setIfInBounds_toArray, List.set_cons_zero, List.set_cons_succ]
            exact rfl
          refine WQ.gen (v := ?_) (by kernel_rfl) ?_ ?_
          rotate_left
          · intro W hC
            go_simp
            try with_reducible rfl
          refine WQ.eq (a' := ?_) ?_ ?_
          rotate_left
          · try simp only [Act.put, List.setIfInBounds_toArray, List.set_cons_zero, List.set_cons_succ]
            exact rfl
          refine WQ.gen (v := ?_) (by kernel_rfl) ?_ ?_
          rotate_left
          · intro W hC
            go_simp
            try with_reducible rfl
          refine WQ.eq (a' := ?_) ?_ ?_
          rotate_left
          · try simp only [Act.put, List.setIfInBounds_toArray, List.set_cons_zero, List.set_cons_succ]
            exact rfl
          refine WQ.gen (v := ?_) (by kernel_rfl) ?_ ?_
          rotate_left
          · intro W hC
            go_simp
            try with_reducible rfl
          refine WQ.eq (a' := ?_) ?_ ?_
          rotate_left
          · try simp only [Act.put, List.setIfInBounds_toArray, List.set_cons_zero, List.set_cons_succ]
            exact rfl
          refine WQ.gen (v := ?_) (by kernel_rfl) ?_ ?_
          rotate_left
          · intro W hC
            go_simp
            try with_reducible rfl
          refine WQ.eq (a' := ?_) ?_ ?_
          rotate_left
          · try simp only [Act.put, List.setIfInBounds_toArray, List.set_cons_zero, List.set_cons_succ]
            exact rfl
          refine WQ.gen (v := ?_) (by kernel_rfl) ?_ ?_
          rotate_left
          · intro W hC
            go_simp
            try with_reducible rfl
          refine WQ.eq (a' := ?_) ?_ ?_
          rotate_left
          · try simp only [Act.put, List.setIfInBounds_toArray, List.set_cons_zero, List.set_cons_succ]
            exact rfl
          refine WQ.gen (v := ?_) (by kernel_rfl) ?_ ?_
          rotate_left
          · intro W hC
            go_simp
            try with_reducible rfl
          refine WQ.eq (a' := ?_) ?_ ?_
          rotate_left
          · try simp only [Act.put, List.setIfInBounds_toArray, List.set_cons_zero, List.set_cons_succ]
            exact rfl
          refine WQ.gen (v := ?_) (by kernel_rfl) ?_ ?_
          rotate_left
          · intro W hC
            go_simp
            try with_reducible rfl
          refine WQ.eq (a' := ?_) ?_ ?_
          rotate_left
          · try simp only [Act.put, List.setIfInBounds_toArray, List.set_cons_zero, List.set_cons_succ]
            exact rfl
          refine WQ.gen (v := ?_) (by kernel_rfl) ?_ ?_
          rotate_left
          · intro W hC
            go_simp
            try with_reducible rfl
          refine WQ.eq (a' := ?_) ?_ ?_
          rotate_left
          · try simp only [Act.put, List.setIfInBounds_toArray, List.set_cons_zero, List.set_cons_succ]
            exact rfl
          refine WQ.gen (v := ?_) (by kernel_rfl) ?_ ?_
          rotate_left
          · intro W hC
            go_simp
            try with_reducible rfl
          refine WQ.eq (a' := ?_) ?_ ?_
          rotate_left
          · try simp only [Act.put, List.setIfInBounds_toArray, List.set_cons_zero, List.set_cons_succ]
            exact rfl
          refine WQ.gen (v := ?_) (by kernel_rfl) ?_ ?_
          rotate_left
          · intro W hC
            go_simp
            try with_reducible rfl
          refine WQ.eq (a' := ?_) ?_ ?_
          rotate_left
          · try simp only [Act.put, List.setIfInBounds_toArray, List.set_cons_zero, List.set_cons_succ]
            exact rfl
          refine WQ.gen (v := ?_) (by kernel_rfl) ?_ ?_
          rotate_left
          · intro W hC
            go_simp
            try with_reducible rfl
          refine WQ.eq (a' := ?_) ?_ ?_
          rotate_left
          · try simp only [Act.put, List.setIfInBounds_toArray, List.set_cons_zero, List.set_cons_succ]
            exact rfl
          refine WQ.gen (v := ?_) (by kernel_rfl) ?_ ?_
          rotate_left
          · intro W hC
            go_simp
            try with_reducible rfl
          refine WQ.eq (a' := ?_) ?_ ?_
          rotate_left
          · try simp only [Act.put, List.setIfInBounds_toArray, List.set_cons_zero, List.set_cons_succ]
            exact rfl
          refine WQ.gen (v := ?_) (by kernel_rfl) ?_ ?_
          rotate_left
          · intro W hC
            go_simp
            try with_reducible rfl
          refine WQ.eq (a' := ?_) ?_ ?_
          rotate_left
          · try simp only [Act.put, List.setIfInBounds_toArray, List.set_cons_zero, List.set_cons_succ]
            exact rfl
          refine WQ.gen (v := ?_) (by kernel_rfl) ?_ ?_
          rotate_left
          · intro W hC
            go_simp
            try with_reducible rfl
          refine WQ.eq (a' := ?_) ?_ ?_
          rotate_left
          · try simp only [Act.put, List.setIfInBounds_toArray, List.set_cons_zero, List.set_cons_succ]
            exact rfl
          refine WQ.gen (v := ?_) (by kernel_rfl) ?_ ?_
          rotate_left
          · intro W hC
            go_simp
            try with_reducible rfl
          refine WQ.eq (a' := ?_) ?_ ?_
          rotate_left
          · try simp only [Act.put, List.setIfInBounds_toArray, List.set_cons_zero, List.set_cons_succ]
            exact rfl
          refine WQ.gen (v := ?_) (by kernel_rfl) ?_ ?_
          rotate_left
          · intro W hC
            go_simp
            try with_reducible rfl
          refine WQ.eq (a' := ?_) ?_ ?_
          rotate_left
          · try simp only [Act.put, List.setIfInBounds_toArray, List.set_cons_zero, List.set_cons_succ]
            exact rfl
          refine WQ.gen (v := ?_) (by kernel_rfl) ?_ ?_
          rotate_left
          · intro W hC
            go_simp
            try with_reducible rfl
          refine WQ.eq (a' := ?_) ?_ ?_
          rotate_left
          · try simp only [Act.put, List.setIfInBounds_toArray, List.set_cons_zero, List.set_cons_succ]
            exact rfl
          refine WQ.gen (v := ?_) (by kernel_rfl) ?_ ?_
          rotate_left
          · intro W hC
            go_simp
            try with_reducible rfl
          refine WQ.eq (a' := ?_) ?_ ?_
          rotate_left
          · try simp only [Act.put, List.setIfInBounds_toArray, List.set_cons_zero, List.set_cons_succ]
            exact rfl
          refine WQ.gen (v := ?_) (by kernel_rfl) ?_ ?_
          rotate_left
          · intro W hC
            go_simp
            try with_reducible rfl
          refine WQ.eq (a' := ?_) ?_ ?_
          rotate_left
          · try simp only [Act.put, List.setIfInBounds_toArray, List.set_cons_zero, List.set_cons_succ]
            exact rfl
          refine WQ.gen (v := ?_) (by kernel_rfl) ?_ ?_
          rotate_left
          · intro W hC
            go_simp
            try with_reducible rfl
          refine WQ.eq (a' := ?_) ?_ ?_
          rotate_left
          · try simp only [Act.put, List.setIfInBounds_toArray, List.set_cons_zero, List.set_cons_succ]
            exact rfl
          refine WQ.gen (v := ?_) (by kernel_rfl) ?_ ?_
          rotate_left
          · intro W hC
            go_simp
            try with_reducible rfl
          refine WQ.eq (a' := ?_) ?_ ?_
          rotate_left
          · try simp only [Act.put, List.setIfInBounds_toArray, List.set_cons_zero, List.set_cons_succ]
            exact rfl
          refine WQ.gen (v := ?_) (by kernel_rfl) ?_ ?_
          rotate_left
          · intro W hC
            go_simp
            try with_reducible rfl
          refine WQ.eq (a' := ?_) ?_ ?_
          rotate_left
          · try simp only [Act.put, List.setIfInBounds_toArray, List.set_cons_zero, List.set_cons_succ]
            exact rfl
          refine WQ.gen (v := ?_) (by kernel_rfl) ?_ ?_
          rotate_left
          · intro W hC
            go_simp
            try with_reducible rfl
          refine WQ.eq (a' := ?_) ?_ ?_
          rotate_left
          · try simp only [Act.put, List.setIfInBounds_toArray, List.set_cons_zero, List.set_cons_succ]
            exact rfl
          refine WQ.nil ?_
          intro w2 hB2
          have HB2 := Lib.hid hB2
          clear hB2
          go_wp2_with fail
          go_roundg (gk - 1)
          case measure => omega
          case rel => exact ⟨n + 1, by omega, by have := HK.out; omega, by go_num, show ∀ j, _ from fun j hj hi hjn => (Nat.lt_succ_iff_lt_or_eq.1 hjn).elim (HJ.out j hj hi) (fun h => by subst h; exact HC.out hj hi), HB2⟩
        · have d2 : (((s[k]'hlt).toNat : Int) == ((s[x]'hlx).toNat : Int)) = false := by
            rw [beq_eq_false_iff_ne]
            intro h
            exact hc (UInt8.toNat_inj.1 (by omega))
          have HF : Hid (mch s a y = n) := show _ = _ from by subst hk hx; exact mch_is (by omega) (by omega) hle HJ.out (.inr (.inr ⟨hlt, hlx, hc⟩))
          clear hc hk hx
          go_wp2_with fail
          refine wp_region_classW (fun W => Below w.heap.size w W) (by kernel_rfl) (by kernel_rfl) HB.out.drew ?_
          refine WQ.gen (v := ?_) (by kernel_rfl) ?_ ?_
          rotate_left
          · intro W hC
            go_simp
            try with_reducible rfl
          refine WQ.eq (a' := ?_) ?_ ?_
          rotate_left
          · try simp only [Act.put, List.setIfInBounds_toArray, List.set_cons_zero, List.set_cons_succ]
            exact rfl
          refine WQ.gen (v := ?_) (by kernel_rfl) ?_ ?_
          rotate_left
          · intro W hC
            go_simp
            try with_reducible rfl
          refine WQ.eq (a' := ?_) ?_ ?_
          rotate_left
          · try simp only [Act.put, List.setIfInBounds_toArray, List.set_cons_zero, List.set_cons_succ]
            exact rfl
          refine WQ.gen (v := ?_) (by kernel_rfl) ?_ ?_
          rotate_left
          · intro W hC
            go_simp
            try with_reducible rfl
          refine WQ.eq (a' := ?_) ?_ ?_
          rotate_left
          · try simp only [Act.put, List.setIfInBounds_toArray, List.set_cons_zero, List.set_cons_succ]
            exact rfl
          refine WQ.gen (v := ?_) (by kernel_rfl) ?_ ?_
          rotate_left
          · intro W hC
            go_simp
            try with_reducible rfl
          refine WQ.eq (a' := ?_) ?_ ?_
          rotate_left
          · try simp only [Act.put, List.setIfInBounds_toArray, List.set_cons_zero, List.set_cons_succ]
            exact rfl
          refine WQ.gen (v := ?_) (by kernel_rfl) ?_ ?_
          rotate_left
          · intro W hC
            go_simp
            try with_reducible rfl
          refine WQ.eq (a' := ?_) ?_ ?_
          rotate_left
          · try simp only [Act.put, List.setIfInBounds_toArray, List.set_cons_zero, List.set_cons_succ]
            exact rfl
          refine WQ.gen (v := ?_) (by kernel_rfl) ?_ ?_
          rotate_left
          · intro W hC
            go_simp
            try with_reducible rfl
          refine WQ.eq (a' := ?_) ?_ ?_
          rotate_left
          · try simp only [Act.put, List.setIfInBounds_toArray, List.set_cons_zero, List.set_cons_succ]
            exact rfl
          refine WQ.gen (v := ?_) (by kernel_rfl) ?_ ?_
          rotate_left
          · intro W hC
            go_simp
            try with_reducible rfl
          refine WQ.eq (a' := ?_) ?_ ?_
          rotate_left
          · try simp only [Act.put, List.setIfInBounds_toArray, List.set_cons_zero, List.set_cons_succ]
            exact rfl
          refine WQ.gen (v := ?_) (by kernel_rfl) ?_ ?_
          rotate_left
          · intro W hC
            go_simp
            try with_reducible rfl
          refine WQ.eq (a' := ?_) ?_ ?_
          rotate_left
          · try simp only [Act.put, List.setIfInBounds_toArray, List.set_cons_zero, List.set_cons_succ]
            exact rfl
          refine WQ.gen (v := ?_) (by kernel_rfl) ?_ ?_
          rotate_left
          · intro W hC
            go_simp
            try with_reducible rfl
          refine WQ.eq (a' := ?_) ?_ ?_
          rotate_left
          · try simp only [Act.put, List.setIfInBounds_toArray, List.set_cons_zero, List.set_cons_succ]
            exact rfl
          refine WQ.gen (v := ?_) (by kernel_rfl) ?_ ?_
          rotate_left
          · intro W hC
            go_simp
            try with_reducible rfl
          refine WQ.eq (a' := ?_) ?_ ?_
          rotate_left
          · try simp only [Act.put, List.setIfInBounds_toArray, List.set_cons_zero, List.set_cons_succ]
            exact rfl
          refine WQ.gen (v := ?_) (by kernel_rfl) ?_ ?_
          rotate_left
          · intro W hC
            go_simp
            try with_reducible rfl
          refine WQ.eq (a' := ?_) ?_ ?_
          rotate_left
          · try simp only [Act.put, List.setIfInBounds_toArray, List.set_cons_zero, List.set_cons_succ]
            exact rfl
          refine WQ.gen (v := ?_) (by kernel_rfl) ?_ ?_
          rotate_left
          · intro W hC
            go_simp
            try with_reducible rfl
          refine WQ.eq (a' := ?_) ?_ ?_
          rotate_left
          · try simp only [Act.put, List.setIfInBounds_toArray, List.set_cons_zero, List.set_cons_succ]
            exact rfl
          refine WQ.gen (v := ?_) (by kernel_rfl) ?_ ?_
          rotate_left
          · intro W hC
            go_simp
            try with_reducible rfl
          refine WQ.eq (a' := ?_) ?_ ?_
          rotate_left
          · try simp only [Act.put, List.setIfInBounds_toArray, List.set_cons_zero, List.set_cons_succ]
            exact rfl
          refine WQ.gen (v := ?_) (by kernel_rfl) ?_ ?_
          rotate_left
          · intro W hC
            go_simp
            try with_reducible rfl
          refine WQ.eq (a' := ?_) ?_ ?_
          rotate_left
          · try simp only [Act.put, List.setIfInBounds_toArray, List.set_cons_zero, List.set_cons_succ]
            exact rfl
          refine WQ.gen (v := ?_) (by kernel_rfl) ?_ ?_
          rotate_left
          · intro W hC
            go_simp
            try with_reducible rfl
          refine WQ.eq (a' := ?_) ?_ ?_
          rotate_left
          · try simp only [Act.put, List.setIfInBounds_toArray, List.set_cons_zero, List.set_cons_succ]
            exact rfl
          refine WQ.gen (v := ?_) (by kernel_rfl) ?_ ?_
          rotate_left
          · intro W hC
            go_simp
            try with_reducible rfl
          refine WQ.eq (a' := ?_) ?_ ?_
          rotate_left
          · try simp only [Act.put, List.setIfInBounds_toArray, List.set_cons_zero, List.set_cons_succ]
            exact rfl
          refine WQ.gen (v := ?_) (by kernel_rfl) ?_ ?_
          rotate_left
          · intro W hC
            go_simp
            try with_reducible rfl
          refine WQ.eq (a' := ?_) ?_ ?_
          rotate_left
          · try simp only [Act.put, List.setIfInBounds_toArray, List.set_cons_zero, List.set_cons_succ]
            exact rfl
          refine WQ.gen (v := ?_) (by kernel_rfl) ?_ ?_
          rotate_left
          · intro W hC
            go_simp
            try with_reducible rfl
          refine WQ.eq (a' := ?_) ?_ ?_
          rotate_left
          · try simp only [Act.put, List.setIfInBounds_toArray, List.set_cons_zero, List.set_cons_succ]
            exact rfl
          refine WQ.gen (v := ?_) (by kernel_rfl) ?_ ?_
          rotate_left
          · intro W hC
            go_simp
            try with_reducible rfl
          refine WQ.eq (a' := ?_) ?_ ?_
          rotate_left
          · try simp only [Act.put, List.setIfInBounds_toArray, List.set_cons_zero, List.set_cons_succ]
            exact rfl
          refine WQ.gen (v := ?_) (by kernel_rfl) ?_ ?_
          rotate_left
          · intro W hC
            go_simp
            try with_reducible rfl
          refine WQ.eq (a' := ?_) ?_ ?_
          rotate_left
          · try simp only [Act.put, List.setIfInBounds_toArray, List.set_cons_zero, List.set_cons_succ]
            exact rfl
          refine WQ.gen (v := ?_) (by kernel_rfl) ?_ ?_
          rotate_left
          · intro W hC
            go_simp
            try with_reducible rfl
          refine WQ.eq (a' := ?_) ?_ ?_
          rotate_left
          · try simp only [Act.put, List.setIfInBounds_toArray, List.set_cons_zero, List.set_cons_succ]
            exact rfl
          refine WQ.gen (v := ?_) (by kernel_rfl) ?_ ?_
          rotate_left
          · intro W hC
            go_simp
            try with_reducible rfl
          refine WQ.eq (a' := ?_) ?_ ?_
          rotate_left
          · try simp only [Act.put, List.setIfInBounds_toArray, List.set_cons_zero, List.set_cons_succ]
            exact rfl
          refine WQ.gen (v := ?_) (by kernel_rfl) ?_ ?_
          rotate_left
          · intro W hC
            go_simp
            try with_reducible rfl
          refine WQ.eq (a' := ?_) ?_ ?_
          rotate_left
          · try simp only [Act.put, List.setIfInBounds_toArray, List.set_cons_zero, List.set_cons_succ]
            exact rfl
          refine WQ.gen (v := ?_) (by kernel_rfl) ?_ ?_
          rotate_left
          · intro W hC
            go_simp
            try with_reducible rfl
          refine WQ.eq (a' := ?_) ?_ ?_
          rotate_left
          · try simp only [Act.put, List.setIfInBounds_toArray, List.set_cons_zero, List.set_cons_succ]
            exact rfl
          refine WQ.gen (v := ?_) (by kernel_rfl) ?_ ?_
          rotate_left
          · intro W hC
            go_simp
            try with_reducible rfl
          refine WQ.eq (a' := ?_) ?_ ?_
          rotate_left
          · try simp only [Act.put, List.setIfInBounds_toArray, List.set_cons_zero, List.set_cons_succ]
            exact rfl
          refine WQ.nil ?_
          intro w2 hB2
          have HB2 := Lib.hid hB2
          clear hB2
          go_wp2_with fail
          go_ret
          exact ⟨by rw [HF.out]; rfl, HB2.out⟩
      · have d1 : decide ((k : Int) < s.size) = false := decide_eq_false (by omega)
        have HF : Hid (mch s a y = n) := show _ = _ from mch_is (by omega) (by omega) hle HJ.out (.inr (.inl (by omega)))
        clear hk hx
        go_wp2_with fail
        refine wp_region_classW (fun W => Below w.heap.size w W) (by kernel_rfl) (by kernel_rfl) HB.out.drew ?_
        refine WQ.gen (v := ?_) (by kernel_rfl) ?_ ?_
        rotate_left
        · intro W hC
          go_simp
          try with_reducible rfl
        refine WQ.eq (a' := ?_) ?_ ?_
        rotate_left
        · try simp only [Act.put, List.setIfInBounds_toArray, List.set_cons_zero, List.set_cons_succ]
          exact rfl
        refine WQ.gen (v := ?_) (by kernel_rfl) ?_ ?_
        rotate_left
        · intro W hC
          go_simp
          try with_reducible rfl
        refine WQ.eq (a' := ?_) ?_ ?_
        rotate_left
        · try simp only [Act.put, List.setIfInBounds_toArray, List.set_cons_zero, List.set_cons_succ]
          exact rfl
        refine WQ.gen (v := ?_) (by kernel_rfl) ?_ ?_
        rotate_left
        · intro W hC
          go_simp
          try with_reducible rfl
        refine WQ.eq (a' := ?_) ?_ ?_
        rotate_left
        · try simp only [Act.put, List.setIfInBounds_toArray, List.set_cons_zero, List.set_cons_succ]
          exact rfl
        refine WQ.gen (v := ?_) (by kernel_rfl) ?_ ?_
        rotate_left
        · intro W hC
          go_simp
          try with_reducible rfl
        refine WQ.eq (a' := ?_) ?_ ?_
        rotate_left
        · try simp only [Act.put, List.setIfInBounds_toArray, List.set_cons_zero, List.set_cons_succ]
          exact rfl
        refine WQ.gen (v := ?_) (by kernel_rfl) ?_ ?_
        rotate_left
        · intro W hC
          go_simp
          try with_reducible rfl
        refine WQ.eq (a' := ?_) ?_ ?_
        rotate_left
        · try simp only [Act.put, List.setIfInBounds_toArray, List.set_cons_zero, List.set_cons_succ]
          exact rfl
        refine WQ.gen (v := ?_) (by kernel_rfl) ?_ ?_
        rotate_left
        · intro W hC
          go_simp
          try with_reducible rfl
        refine WQ.eq (a' := ?_) ?_ ?_
        rotate_left
        · try simp only [Act.put, List.setIfInBounds_toArray, List.set_cons_zero, List.set_cons_succ]
          exact rfl
        refine WQ.gen (v := ?_) (by kernel_rfl) ?_ ?_
        rotate_left
        · intro W hC
          go_simp
          try with_reducible rfl
        refine WQ.eq (a' := ?_) ?_ ?_
        rotate_left
        · try simp only [Act.put, List.setIfInBounds_toArray, List.set_cons_zero, List.set_cons_succ]
          exact rfl
        refine WQ.gen (v := ?_) (by kernel_rfl) ?_ ?_
        rotate_left
        · intro W hC
          go_simp
          try with_reducible rfl
        refine WQ.eq (a' := ?_) ?_ ?_
        rotate_left
        · try simp only [Act.put, List.setIfInBounds_toArray, List.set_cons_zero, List.set_cons_succ]
          exact rfl
        refine WQ.gen (v := ?_) (by kernel_rfl) ?_ ?_
        rotate_left
        · intro W hC
          go_simp
          try with_reducible rfl
        refine WQ.eq (a' := ?_) ?_ ?_
        rotate_left
        · try simp only [Act.put, List.setIfInBounds_toArray, List.set_cons_zero, List.set_cons_succ]
          exact rfl
        refine WQ.gen (v := ?_) (by kernel_rfl) ?_ ?_
        rotate_left
        · intro W hC
          go_simp
          try with_reducible rfl
        refine WQ.eq (a' := ?_) ?_ ?_
        rotate_left
        · try simp only [Act.put, List.setIfInBounds_toArray, List.set_cons_zero, List.set_cons_succ]
          exact rfl
        refine WQ.gen (v := ?_) (by kernel_rfl) ?_ ?_
        rotate_left
        · intro W hC
          go_simp
          try with_reducible rfl
        refine WQ.eq (a' := ?_) ?_ ?_
        rotate_left
        · try simp only [Act.put, List.setIfInBounds_toArray, List.set_cons_zero, List.set_cons_succ]
          exact rfl
        refine WQ.skip (by kernel_rfl) ?_
        refine WQ.eq (a' := ?_) ?_ ?_
        rotate_left
        · try simp only [Act.put, List.setIfInBounds_toArray, List.set_cons_zero, List.set_cons_succ]
          exact rfl
        refine WQ.skip (by kernel_rfl) ?_
        refine WQ.eq (a' := ?_) ?_ ?_
        rotate_left
        · try simp only [Act.put, List.setIfInBounds_toArray, List.set_cons_zero, List.set_cons_succ]
          exact rfl
        refine WQ.skip (by kernel_rfl) ?_
        refine WQ.eq (a' := ?_) ?_ ?_
        rotate_left
        · try simp only [Act.put, List.setIfInBounds_toArray, List.set_cons_zero, List.set_cons_succ]
          exact rfl
        refine WQ.skip (by kernel_rfl) ?_
        refine WQ.eq (a' := ?_) ?_ ?_
        rotate_left
        · try simp only [Act.put, List.setIfInBounds_toArray, List.set_cons_zero, List.set_cons_succ]
          exact rfl
        refine WQ.skip (by kernel_rfl) ?_
        refine WQ.eq (a' := ?_) ?_ ?_
        rotate_left
        · try simp only [Act.put, List.setIfInBounds_toArray, List.set_cons_zero, List.set_cons_succ]
          exact rfl
        refine WQ.skip (by kernel_rfl) ?_
        refine WQ.eq (a' := ?_) ?_ ?_
        rotate_left
        · try simp only [Act.put, List.setIfInBounds_toArray, List.set_cons_zero, List.set_cons_succ]
          exact rfl
        refine WQ.skip (by kernel_rfl) ?_
        refine WQ.eq (a' := ?_) ?_ ?_
        rotate_left
        · try simp only [Act.put, List.setIfInBounds_toArray, List.set_cons_zero, List.set_cons_succ]
          exact rfl
        refine WQ.skip (by kernel_rfl) ?_
        refine WQ.eq (a' := ?_) ?_ ?_
        rotate_left
        · try simp only [Act.put, List.setIfInBounds_toArray, List.set_cons_zero, List.set_cons_succ]
          exact rfl
        refine WQ.skip (by kernel_rfl) ?_
        refine WQ.eq (a' := ?_) ?_ ?_
        rotate_left
        · try simp only [Act.put, List.setIfInBounds_toArray, List.set_cons_zero, List.set_cons_succ]
          exact rfl
        refine WQ.skip (by kernel_rfl) ?_
        refine WQ.eq (a' := ?_) ?_ ?_
        rotate_left
        · try simp only [Act.put, List.setIfInBounds_toArray, List.set_cons_zero, List.set_cons_succ]
          exact rfl
        refine WQ.skip (by kernel_rfl) ?_
        refine WQ.eq (a' := ?_) ?_ ?_
        rotate_left
        · try simp only [Act.put, List.setIfInBounds_toArray, List.set_cons_zero, List.set_cons_succ]
          exact rfl
        refine WQ.skip (by kernel_rfl) ?_
        refine WQ.eq (a' := ?_) ?_ ?_
        rotate_left
        · try simp only [Act.put, List.setIfInBounds_toArray, List.set_cons_zero, List.set_cons_succ]
          exact rfl
        refine WQ.skip (by kernel_rfl) ?_
        refine WQ.eq (a' := ?_) ?_ ?_
        rotate_left
        · try simp only [Act.put, List.setIfInBounds_toArray, List.set_cons_zero, List.set_cons_succ]
          exact rfl
        refine WQ.gen (v := ?_) (by kernel_rfl) ?_ ?_
        rotate_left
        · intro W hC
          go_simp
          try with_reducible rfl
        refine WQ.eq (a' := ?_) ?_ ?_
        rotate_left
        · try simp only [Act.put, List.setIfInBounds_toArray, List.set_cons_zero, List.set_cons_succ]
          exact rfl
        refine WQ.nil ?_
        intro w2 hB2
        have HB2 := Lib.hid hB2
        clear hB2
        go_wp2_with fail
        go_ret
        exact ⟨by rw [HF.out]; rfl, HB2.out⟩
    · have d0 : decide ((n : Int) < 130) = false := decide_eq_false (by omega)
      have HF : Hid (mch s a y = n) := show _ = _ from mch_is (by omega) (by omega) hle HJ.out (.inl (by omega))
      clear hk hx
      go_wp2_with fail
      refine wp_region_classW (fun W => Below w.heap.size w W) (by kernel_rfl) (by kernel_rfl) HB.out.drew ?_
      refine WQ.gen (v := ?_) (by kernel_rfl) ?_ ?_
      rotate_left
      · intro W hC
        go_simp
        try with_reducible rfl
      refine WQ.eq (a' := ?_) ?_ ?_
      rotate_left
      · try simp only [Act.put, List.setIfInBounds_toArray, List.set_cons_zero, List.set_cons_succ]
        exact rfl
      refine WQ.gen (v := ?_) (by kernel_rfl) ?_ ?_
      rotate_left
      · intro W hC
        go_simp
        try with_reducible rfl
      refine WQ.eq (a' := ?_) ?_ ?_
      rotate_left
      · try simp only [Act.put, List.setIfInBounds_toArray, List.set_cons_zero, List.set_cons_succ]
        exact rfl
      refine WQ.gen (v := ?_) (by kernel_rfl) ?_ ?_
      rotate_left
      · intro W hC
        go_simp
        try with_reducible rfl
      refine WQ.eq (a' := ?_) ?_ ?_
      rotate_left
      · try simp only [Act.put, List.setIfInBounds_toArray, List.set_cons_zero, List.set_cons_succ]
        exact rfl
      refine WQ.skip (by kernel_rfl) ?_
      refine WQ.eq (a' := ?_) ?_ ?_
      rotate_left
      · try simp only [Act.put, List.setIfInBounds_toArray, List.set_cons_zero, List.set_cons_succ]
        exact rfl
      refine WQ.skip (by kernel_rfl) ?_
      refine WQ.eq (a' := ?_) ?_ ?_
      rotate_left
      · try simp only [Act.put, List.setIfInBounds_toArray, List.set_cons_zero, List.set_cons_succ]
        exact rfl
      refine WQ.skip (by kernel_rfl) ?_
      refine WQ.eq (a' := ?_) ?_ ?_
      rotate_left
      · try simp only [Act.put, List.setIfInBounds_toArray, List.set_cons_zero, List.set_cons_succ]
        exact rfl
      refine WQ.skip (by kernel_rfl) ?_
      refine WQ.eq (a' := ?_) ?_ ?_
      rotate_left
      · try simp only [Act.put, List.setIfInBounds_toArray, List.set_cons_zero, List.set_cons_succ]
        exact rfl
      refine WQ.skip (by kernel_rfl) ?_
      refine WQ.eq (a' := ?_) ?_ ?_
      rotate_left
      · try simp only [Act.put, List.setIfInBounds_toArray, List.set_cons_zero, List.set_cons_succ]
        exact rfl
      refine WQ.skip (by kernel_rfl) ?_
      refine WQ.eq (a' := ?_) ?_ ?_
      rotate_left
      · try simp only [Act.put, List.setIfInBounds_toArray, List.set_cons_zero, List.set_cons_succ]
        exact rfl
      refine WQ.gen (v := ?_) (by kernel_rfl) ?_ ?_
      rotate_left
      · intro W hC
        go_simp
        try with_reducible rfl
      refine WQ.eq (a' := ?_) ?_ ?_
      rotate_left
      · try simp only [Act.put, List.setIfInBounds_toArray, List.set_cons_zero, List.set_cons_succ]
        exact rfl
      refine WQ.gen (v := ?_) (by kernel_rfl) ?_ ?_
      rotate_left
      · intro W hC
        go_simp
        try with_reducible rfl
      refine WQ.eq (a' := ?_) ?_ ?_
      rotate_left
      · try simp only [Act.put, List.setIfInBounds_toArray, List.set_cons_zero, List.set_cons_succ]
        exact rfl
      refine WQ.skip (by kernel_rfl) ?_
      refine WQ.eq (a' := ?_) ?_ ?_
      rotate_left
      · try simp only [Act.put, List.setIfInBounds_toArray, List.set_cons_zero, List.set_cons_succ]
        exact rfl
      refine WQ.skip (by kernel_rfl) ?_
      refine WQ.eq (a' := ?_) ?_ ?_
      rotate_left
      · try simp only [Act.put, List.setIfInBounds_toArray, List.set_cons_zero, List.set_cons_succ]
        exact rfl
      refine WQ.skip (by kernel_rfl) ?_
      refine WQ.eq (a' := ?_) ?_ ?_
      rotate_left
      · try simp only [Act.put, List.setIfInBounds_toArray, List.set_cons_zero, List.set_cons_succ]
        exact rfl
      refine WQ.skip (by kernel_rfl) ?_
      refine WQ.eq (a' := ?_) ?_ ?_
      rotate_left
      · try simp only [Act.put, List.setIfInBounds_toArray, List.set_cons_zero, List.set_cons_succ]
        exact rfl
      refine WQ.skip (by kernel_rfl) ?_
      refine WQ.eq (a' := ?_) ?_ ?_
      rotate_left
      · try simp only [Act.put, List.setIfInBounds_toArray, List.set_cons_zero, List.set_cons_succ]
        exact rfl
      refine WQ.skip (by kernel_rfl) ?_
      refine WQ.eq (a' := ?_) ?_ ?_
      rotate_left
      · try simp only [Act.put, List.setIfInBounds_toArray, List.set_cons_zero, List.set_cons_succ]
        exact rfl
      refine WQ.skip (by kernel_rfl) ?_
      refine WQ.eq (a' := ?_) ?_ ?_
      rotate_left
      · try simp only [Act.put, List.setIfInBounds_toArray, List.set_cons_zero, List.set_cons_succ]
        exact rfl
      refine WQ.skip (by kernel_rfl) ?_
      refine WQ.eq (a' := ?_) ?_ ?_
      rotate_left
      · try simp only [Act.put, List.setIfInBounds_toArray, List.set_cons_zero, List.set_cons_succ]
        exact rfl
      refine WQ.skip (by kernel_rfl) ?_
      refine WQ.eq (a' := ?_) ?_ ?_
      rotate_left
      · try simp only [Act.put, List.setIfInBounds_toArray, List.set_cons_zero, List.set_cons_succ]
        exact rfl
      refine WQ.skip (by kernel_rfl) ?_
      refine WQ.eq (a' := ?_) ?_ ?_
      rotate_left
      · try simp only [Act.put, List.setIfInBounds_toArray, List.set_cons_zero, List.set_cons_succ]
        exact rfl
      refine WQ.skip (by kernel_rfl) ?_
      refine WQ.eq (a' := ?_) ?_ ?_
      rotate_left
      · try simp only [Act.put, List.setIfInBounds_toArray, List.set_cons_zero, List.set_cons_succ]
        exact rfl
      refine WQ.skip (by kernel_rfl) ?_
      refine WQ.eq (a' := ?_) ?_ ?_
      rotate_left
      · try simp only [Act.put, List.setIfInBounds_toArray, List.set_cons_zero, List.set_cons_succ]
        exact rfl
      refine WQ.skip (by kernel_rfl) ?_
      refine WQ.eq (a' := ?_) ?_ ?_
      rotate_left
      · try simp only [Act.put, List.setIfInBounds_toArray, List.set_cons_zero, List.set_cons_succ]
        exact rfl
      refine WQ.gen (v := ?_) (by kernel_rfl) ?_ ?_
      rotate_left
      · intro W hC
        go_simp
        try with_reducible rfl
      refine WQ.eq (a' := ?_) ?_ ?_
      rotate_left
      · try simp only [Act.put, List.setIfInBounds_toArray, List.set_cons_zero, List.set_cons_succ]
        exact rfl
      refine WQ.nil ?_
      intro w2 hB2
      have HB2 := Lib.hid hB2
      clear hB2
      go_wp2_with fail
      go_ret
      exact ⟨by rw [HF.out]; rfl, HB2.out⟩
open Go.RowKit
set_option maxHeartbeats 1000000
set_option maxRecDepth 4000
/-- the longest match of a place with what stands at most d back, and how far back -/
def bstD (s : ByteArray) (a : Nat) : Nat → Nat × Nat
  | 0 => (0, 0)
  | d + 1 => if (bstD s a d).1 < mch s a (a - (d + 1)) then (mch s a (a - (d + 1)), d + 1) else bstD s a d
def bst (s : ByteArray) (a : Nat) : Nat × Nat := bstD s a (min a 32768)
theorem bstD_le {s : ByteArray} {a : Nat} (ha : a ≤ s.size) : ∀ d, (bstD s a d).1 ≤ 130 ∧ a + (bstD s a d).1 ≤ s.size ∧ (bstD s a d).2 ≤ d ∧ (0 < (bstD s a d).1 → 1 ≤ (bstD s a d).2)
  | 0 => by simp [bstD]; exact ha
  | d + 1 => by
    have h := bstD_le ha d
    have h2 := mch_le ha (a - (d + 1))
    unfold bstD
    split
    · simp only; omega
    · omega
theorem best_any (s : ByteArray) (a : Nat) (w : World) (hs : s.size ≤ 140737488355328) (ha : a ≤ s.size) :
    Calls Tryd.prog 78 #[.string s, .int .i64 a] w fun e w' => e = .returned (.tuple #[.int .i64 (bst s a).1, .int .i64 (bst s a).2]) ∧ Below w.heap.size w w' := by
  obtain ⟨R, hR⟩ : ∃ R, R = bst s a := ⟨_, rfl⟩
  rw [← hR]
  have HR := Lib.hid hR
  have H0 : Hid (bstD s a 0 = (0, 0)) := show _ = _ from rfl
  clear hR
  go_enter Tryd.func78, Tryd.ntmps78
  go_wp2_with fail
  go_loopg [6, 7, 8] a (fun gk i b j wr => ∃ n bk d : Nat, d + gk = a ∧ d ≤ 32768 ∧ n ≤ 130 ∧ i = .int .i64 n ∧ b = .int .i64 bk ∧ j = .int .i64 (d + 1 : Nat) ∧ Hid (bstD s a d = (n, bk)) ∧ Hid (Below w.heap.size w wr))
  case atStart => exact ⟨0, 0, 0, by omega, by omega, by omega, rfl, rfl, rfl, H0, Below.refl _ _⟩
  case round =>
    obtain ⟨n, bk, d, hn, hd, hnn, rfl, rfl, rfl, HD, HB⟩ := hrel
    obtain ⟨k, hk⟩ : ∃ k, k = d + 1 := ⟨_, rfl⟩
    rw [← hk]
    have e1 : IntKind.i64.wrap ((k : Int) + 1) = ((k + 1 : Nat) : Int) := by rw [IntWalk.i64_in _ (by omega)]; omega
    by_cases hka : k ≤ a
    · have d0 : decide ((k : Int) ≤ a) = true := decide_eq_true (by omega)
      by_cases hk2 : k ≤ 32768
      · have d1 : decide ((k : Int) ≤ 32768) = true := decide_eq_true (by omega)
        obtain ⟨m, hm⟩ : ∃ m, m = mch s a (a - k) := ⟨_, rfl⟩
        have hm1 : m ≤ 130 := by rw [hm]; exact (mch_le ha _).1
        have HM := Lib.hid hm
        have hk1 : 1 ≤ k := by omega
        have HK2 : Hid (k ≤ 32768) := show k ≤ 32768 from hk2
        have HK3 : Hid (k = d + 1) := show _ = _ from hk
        clear hk2 hd
        by_cases hlt : n < m
        · have d2 : decide ((n : Int) < m) = true := decide_eq_true (by omega)
          have HN : Hid (bstD s a k = (m, k)) := show _ = _ from by
            subst hk
            have hD := HD.out
            unfold bstD
            rw [hD, ← hm, if_pos hlt]
          clear hm hk
          go_wp2_with fail
          refine (match_any s a k _ hs ha hk1 hka).mono ?_
          rintro e w1 ⟨rfl, hb⟩
          have HB1 := Lib.hid (bw_call HB.out hb)
          clear hb
          rw [← HM.out]
          go_wp2_with fail
          go_roundg (gk - 1)
          case measure => have := HK3.out; omega
          case rel => exact ⟨m, k, k, by have := HK3.out; omega, HK2.out, by omega, rfl, rfl, by go_num, HN, HB1⟩
        · have d2 : decide ((n : Int) < m) = false := decide_eq_false (by omega)
          have HN : Hid (bstD s a k = (n, bk)) := show _ = _ from by
            subst hk
            have hD := HD.out
            unfold bstD
            rw [hD, ← hm, if_neg hlt]
          clear hm hk
          go_wp2_with fail
          refine (match_any s a k _ hs ha hk1 hka).mono ?_
          rintro e w1 ⟨rfl, hb⟩
          have HB1 := Lib.hid (bw_call HB.out hb)
          clear hb
          rw [← HM.out]
          go_wp2_with fail
          go_roundg (gk - 1)
          case measure => have := HK3.out; omega
          case rel => exact ⟨n, bk, k, by have := HK3.out; omega, HK2.out, by omega, rfl, rfl, by go_num, HN, HB1⟩
      · have d1 : decide ((k : Int) ≤ 32768) = false := decide_eq_false (by omega)
        have HN : Hid (R = (n, bk)) := show _ = _ from by
          rw [HR.out, ← HD.out, bst]
          congr 1
          omega
        clear hk
        go_wp2_with fail
        go_ret2
        exact ⟨by rw [HN.out]; rfl, HB.out⟩
    · have d0 : decide ((k : Int) ≤ a) = false := decide_eq_false (by omega)
      have HN : Hid (R = (n, bk)) := show _ = _ from by
        rw [HR.out, ← HD.out, bst]
        congr 1
        omega
      clear hk
      go_wp2_with fail
      go_ret2
      exact ⟨by rw [HN.out]; rfl, HB.out⟩
/-- the static text -/
def statL : List UInt8 := [116, 114, 97, 110, 115, 102, 101, 114, 32, 112, 97, 121, 32, 116, 111, 32, 102, 114, 111, 109, 32, 108, 97, 110, 101, 32, 98, 105, 100, 32, 102, 101, 101, 32, 110, 111, 110, 99, 101, 32, 114, 111, 117, 110, 100, 32, 98, 97, 116, 99, 104, 32, 100, 101, 108, 97, 121, 101, 100, 32, 48, 49, 50, 51, 52, 53, 54, 55]
theorem statL_length : statL.length = 68 := rfl
theorem static_any (w : World) :
    Calls Tryd.prog 77 #[] w fun e w' => e = .returned (.string (bstr statL)) ∧ Below w.heap.size w w' := by
  go_enter Tryd.func77, Tryd.ntmps77
  go_wp2_with fail
  go_ret
  exact ⟨rfl, Below.refl _ _⟩
open Go.RowKit
set_option maxHeartbeats 4000000
set_option maxRecDepth 4000
/-- the longest match with one of the places that are noted, the last ones first -/
def lng (K : ByteArray) (a : Nat) (zs : List Nat) : Nat → Nat → Nat → Nat × Nat
  | 0, n, b => (n, b)
  | c + 1, n, b =>
    if 32768 < a - zs.getD c 0 then (n, b)
    else if n < mch K a (zs.getD c 0) then
      (if mch K a (zs.getD c 0) = min 130 (K.size - a) then (mch K a (zs.getD c 0), a - zs.getD c 0) else lng K a zs c (mch K a (zs.getD c 0)) (a - zs.getD c 0))
    else if n = min 130 (K.size - a) then (n, b) else lng K a zs c n b
theorem wp_scope_jumps2 {P : Program} {a : Act} {w : World} {Q : Exit → Act → World → Prop} {c rest : Code} (l : Nat) (J : Act → World → Prop) (μ : Act → World → Nat) (hf : findLabel c l = some (Code.skip.seq rest))
    (pass : ∀ a w, J a w → rest.wp P (Exit.jump l (fun a' w' => J a' w' ∧ μ a' w' < μ a w) Q) a w)
    (first : (∀ a w, J a w → rest.wp P (Exit.jump l J Q) a w) → c.wp P (Exit.jump l J Q) a w) : (Code.scope c).wp P Q a w := by
  refine wp_scope_jumps l J μ hf (first fun a w h => Code.wp_mono ?_ (pass a w h)) fun a w h => wp_seq (wp_skip (pass a w h))
  intro e a' w' h
  cases e <;> first | exact h | exact ⟨h.1, h.2.1⟩
/-- what holds at each jump -/
def JLong (K : ByteArray) (a : Nat) (q : Option Addr) (ln c mo : Nat) (zs : List Nat) (R : Nat × Nat) (w : World) (k : Nat) (a' : Act) (w' : World) : Prop :=
  ∃ (m n b : Nat) (i : Int) (u6 u7 : Value) (US : List Value), w' = w.drewN m ∧ k ≤ ln ∧ i ≤ (k : Int) - 1 ∧ (k : Int) - 1 ≤ i ∧ n ≤ 130 ∧ Hid (lng K a zs k n b = R) ∧ US.length = 60 ∧ a' = { tmps := (.string K :: .int .i64 a :: .slice q ln c :: undef :: undef :: undef :: u6 :: u7 :: .int .i64 mo :: .int .i64 n :: .int .i64 b :: .int .i64 i :: US).toArray, defers := [] }
theorem len_succ {n : Nat} {l : List Value} (h : l.length = n + 1) : ∃ x r, l = x :: r ∧ r.length = n := by
  cases l with
  | nil => simp at h
  | cons x r => exact ⟨x, r, rfl, by simpa using h⟩
def muLong (a' : Act) : Nat := (intOf (a'.tmps.getD 11 undef) + 1).toNat
theorem longest_any (K : ByteArray) (a : Nat) (q : Option Addr) (c : Nat) (zs : List Nat) (w : World) (hK : K.size ≤ 1073741824) (ha : a ≤ K.size) (hl : zs.length ≤ 1073741824) (hz : ∀ j, j < zs.length → zs.getD j 0 < a)
    (hc : ∀ j, j < zs.length → ∃ g, q = some ⟨g, 0, none⟩ ∧ w.cell? ⟨g, j, none⟩ = some (.int .i64 (zs.getD j 0 : Nat))) :
    Calls Tryd.prog 94 #[.string K, .int .i64 a, .slice q zs.length c] w fun e w' => e = .returned (.tuple #[.int .i64 (lng K a zs zs.length 0 0).1, .int .i64 (lng K a zs zs.length 0 0).2]) ∧ ∃ m, w' = w.drewN m := by
  obtain ⟨ln, hln⟩ : ∃ k, k = zs.length := ⟨_, rfl⟩
  obtain ⟨R, hR⟩ : ∃ R, R = lng K a zs zs.length 0 0 := ⟨_, rfl⟩
  rw [← hR, ← hln]
  have HR0 : Hid (lng K a zs ln 0 0 = R) := show _ = _ from by rw [hln, hR]
  have HZ : Hid (∀ j, j < ln → zs.getD j 0 < a) := show ∀ j, _ from by rw [hln]; exact hz
  have HC : Hid (∀ j, j < ln → ∃ g, q = some ⟨g, 0, none⟩ ∧ w.cell? ⟨g, j, none⟩ = some (.int .i64 (zs.getD j 0 : Nat))) := show ∀ j, _ from by rw [hln]; exact hc
  have hl1 : ln ≤ 1073741824 := by omega
  clear hR hz hc hl hln
  obtain ⟨mo, hmo⟩ : ∃ k, k = min 130 (K.size - a) := ⟨_, rfl⟩
  have HMO : Hid (mo = min 130 (K.size - a)) := show _ = _ from hmo
  have hm1 : mo ≤ 130 := by omega
  have hm2 : a + mo ≤ K.size := by omega
  have HA0 : Hid (∀ y j (hj : a + j < K.size) (hi : y + j < K.size), j < 0 → K[a + j]'hj = K[y + j]'hi) := show ∀ y, _ from fun y j hj hi hn => by omega
  obtain ⟨rs, hrs⟩ : ∃ k, k = K.size - a := ⟨_, rfl⟩
  have es : IntKind.i64.wrap ((K.size : Int) - a) = (rs : Int) := by rw [IntWalk.i64_in _ (by omega)]; omega
  obtain ⟨il, hil⟩ : ∃ i : Int, i = (ln : Int) - 1 := ⟨_, rfl⟩
  have el : IntKind.i64.wrap ((ln : Int) - 1) = il := by rw [IntWalk.i64_in _ (by omega)]; omega
  have hil1 : il ≤ (ln : Int) - 1 := by omega
  have hil2 : (ln : Int) - 1 ≤ il := by omega
  have HMM : Hid (∀ h : (130 : Int) ≤ rs, (130 : Int) = mo) := show _ → _ from fun h => by omega
  have HMM2 : Hid (∀ h : ¬ (130 : Int) ≤ rs, (rs : Int) = mo) := show _ → _ from fun h => by omega
  clear hmo hil
  go_enter Tryd.func94, Tryd.ntmps94
  go_wp2_with fail
  refine wp_scope_jumps2 0 (fun a' w' => ∃ k, JLong K a q ln c mo zs R w k a' w') (fun a' _ => muLong a') rfl ?_ ?_
  · rintro a' w' ⟨k, hJ⟩
    have hmu : muLong a' = k := by
      obtain ⟨m, n, b, i, u6, u7, US, rfl, hk, hi1, hi2, hn, HEQ, hUS, rfl⟩ := hJ
      show (i + 1).toNat = k
      omega
    rw [hmu]
    clear hmu
    obtain ⟨m, n, b, i, u6, u7, US, rfl, hk, hi1, hi2, hn, HEQ, hUS, rfl⟩ := hJ
    obtain ⟨u12, V13, rfl, hU13⟩ := len_succ hUS
    obtain ⟨u13, V14, rfl, hU14⟩ := len_succ hU13
    obtain ⟨u14, V15, rfl, hU15⟩ := len_succ hU14
    obtain ⟨u15, V16, rfl, hU16⟩ := len_succ hU15
    obtain ⟨u16, V17, rfl, hU17⟩ := len_succ hU16
    obtain ⟨u17, V18, rfl, hU18⟩ := len_succ hU17
    obtain ⟨u18, V19, rfl, hU19⟩ := len_succ hU18
    obtain ⟨u19, V20, rfl, hU20⟩ := len_succ hU19
    obtain ⟨u20, V21, rfl, hU21⟩ := len_succ hU20
    obtain ⟨u21, V22, rfl, hU22⟩ := len_succ hU21
    obtain ⟨u22, V23, rfl, hU23⟩ := len_succ hU22
    obtain ⟨u23, V24, rfl, hU24⟩ := len_succ hU23
    obtain ⟨u24, V25, rfl, hU25⟩ := len_succ hU24
    obtain ⟨u25, V26, rfl, hU26⟩ := len_succ hU25
    obtain ⟨u26, V27, rfl, hU27⟩ := len_succ hU26
    obtain ⟨u27, V28, rfl, hU28⟩ := len_succ hU27
    obtain ⟨u28, V29, rfl, hU29⟩ := len_succ hU28
    obtain ⟨u29, V30, rfl, hU30⟩ := len_succ hU29
    obtain ⟨u30, V31, rfl, hU31⟩ := len_succ hU30
    obtain ⟨u31, V32, rfl, hU32⟩ := len_succ hU31
    obtain ⟨u32, V33, rfl, hU33⟩ := len_succ hU32
    obtain ⟨u33, V34, rfl, hU34⟩ := len_succ hU33
    obtain ⟨u34, V35, rfl, hU35⟩ := len_succ hU34
    obtain ⟨u35, V36, rfl, hU36⟩ := len_succ hU35
    obtain ⟨u36, V37, rfl, hU37⟩ := len_succ hU36
    obtain ⟨u37, V38, rfl, hU38⟩ := len_succ hU37
    obtain ⟨u38, V39, rfl, hU39⟩ := len_succ hU38
    obtain ⟨u39, V40, rfl, hU40⟩ := len_succ hU39
    obtain ⟨u40, V41, rfl, hU41⟩ := len_succ hU40
    obtain ⟨u41, V42, rfl, hU42⟩ := len_succ hU41
    obtain ⟨u42, V43, rfl, hU43⟩ := len_succ hU42
    obtain ⟨u43, V44, rfl, hU44⟩ := len_succ hU43
    obtain ⟨u44, V45, rfl, hU45⟩ := len_succ hU44
    obtain ⟨u45, V46, rfl, hU46⟩ := len_succ hU45
    obtain ⟨u46, V47, rfl, hU47⟩ := len_succ hU46
    obtain ⟨u47, V48, rfl, hU48⟩ := len_succ hU47
    obtain ⟨u48, V49, rfl, hU49⟩ := len_succ hU48
    obtain ⟨u49, V50, rfl, hU50⟩ := len_succ hU49
    obtain ⟨u50, V51, rfl, hU51⟩ := len_succ hU50
    obtain ⟨u51, V52, rfl, hU52⟩ := len_succ hU51
    obtain ⟨u52, V53, rfl, hU53⟩ := len_succ hU52
    obtain ⟨u53, V54, rfl, hU54⟩ := len_succ hU53
    obtain ⟨u54, V55, rfl, hU55⟩ := len_succ hU54
    obtain ⟨u55, V56, rfl, hU56⟩ := len_succ hU55
    obtain ⟨u56, V57, rfl, hU57⟩ := len_succ hU56
    obtain ⟨u57, V58, rfl, hU58⟩ := len_succ hU57
    obtain ⟨u58, V59, rfl, hU59⟩ := len_succ hU58
    obtain ⟨u59, V60, rfl, hU60⟩ := len_succ hU59
    obtain ⟨u60, V61, rfl, hU61⟩ := len_succ hU60
    obtain ⟨u61, V62, rfl, hU62⟩ := len_succ hU61
    obtain ⟨u62, V63, rfl, hU63⟩ := len_succ hU62
    obtain ⟨u63, V64, rfl, hU64⟩ := len_succ hU63
    obtain ⟨u64, V65, rfl, hU65⟩ := len_succ hU64
    obtain ⟨u65, V66, rfl, hU66⟩ := len_succ hU65
    obtain ⟨u66, V67, rfl, hU67⟩ := len_succ hU66
    obtain ⟨u67, V68, rfl, hU68⟩ := len_succ hU67
    obtain ⟨u68, V69, rfl, hU69⟩ := len_succ hU68
    obtain ⟨u69, V70, rfl, hU70⟩ := len_succ hU69
    obtain ⟨u70, V71, rfl, hU71⟩ := len_succ hU70
    obtain ⟨u71, V72, rfl, hU72⟩ := len_succ hU71
    obtain rfl := List.length_eq_zero_iff.1 hU72
    clear hUS hU13 hU14 hU15 hU16 hU17 hU18 hU19 hU20 hU21 hU22 hU23 hU24 hU25 hU26 hU27 hU28 hU29 hU30 hU31 hU32 hU33 hU34 hU35 hU36 hU37 hU38 hU39 hU40 hU41 hU42 hU43 hU44 hU45 hU46 hU47 hU48 hU49 hU50 hU51 hU52 hU53 hU54 hU55 hU56 hU57 hU58 hU59 hU60 hU61 hU62 hU63 hU64 hU65 hU66 hU67 hU68 hU69 hU70 hU71 hU72
    clear hrs es el HMM HMM2 HR0
    by_cases hk0 : k = 0
    · have d0 : decide (i < 0) = true := decide_eq_true (by omega)
      have HF : Hid (R = (n, b)) := show _ = _ from by rw [← HEQ.out, hk0]; rfl
      clear hk0
      go_wp2_with fail
      simp only [Exit.jump]
      go_ret2
      exact ⟨by rw [HF.out]; rfl, m, rfl⟩
    · obtain ⟨j, rfl⟩ : ∃ j, k = j + 1 := ⟨k - 1, by omega⟩
      obtain rfl : i = (j : Int) := by omega
      have d0 : decide ((j : Int) < 0) = false := decide_eq_false (by omega)
      obtain ⟨g, rfl, hcj⟩ := HC.out j (by omega)
      have hp := HZ.out j (by omega)
      obtain ⟨p, hpp⟩ : ∃ p, p = zs.getD j 0 := ⟨_, rfl⟩
      rw [← hpp] at hcj hp
      obtain ⟨bk, hbk⟩ : ∃ x, x = a - p := ⟨_, rfl⟩
      have e1 : IntKind.i64.wrap ((a : Int) - p) = (bk : Int) := by rw [IntWalk.i64_in _ (by omega)]; omega
      have f0 : (0 : Int) ≤ j := by omega
      have f1 : (j : Int) < ln := by omega
      have hjl : j < ln := by omega
      by_cases hfar : 32768 < bk
      · have d1 : decide (32768 < (bk : Int)) = true := decide_eq_true (by omega)
        have HF : Hid (R = (n, b)) := show _ = _ from by rw [← HEQ.out, lng, if_pos (by rw [← hpp]; omega)]
        clear hpp hbk hk0
        go_wp2_with fail
        simp only [Exit.jump]
        go_ret2
        exact ⟨by rw [HF.out]; rfl, m, rfl⟩
      · have d1 : decide (32768 < (bk : Int)) = false := decide_eq_false (by omega)
        obtain ⟨M, hM⟩ : ∃ M, M = mch K a p := ⟨_, rfl⟩
        have hM1 := mch_le ha p
        rw [← hM] at hM1
        have HM := Lib.hid hM
        have HLN : Hid (lng K a zs (j + 1) n b = if n < M then (if M = mo then (M, bk) else lng K a zs j M bk) else if n = mo then (n, b) else lng K a zs j n b) := show _ = _ from by
          rw [lng, ← hpp, ← hM, ← hbk, if_neg hfar, ← HMO.out]
        have HPA : Hid (p ≤ a) := show p ≤ a from by omega
        have hpa : p < a := hp
        clear hpp hM hk0 hbk
        have HBK : Hid (True) := show True from trivial
        go_upto_block 0 with fail
        go_cut [12] (fun t wx => t = .int .i64 M ∧ ∃ m, wx = w.drewN m)
        case first =>
          go_wp2_with fail
          go_loopg [12] mo (fun gk t wx => ∃ (k m : Nat), k + gk = mo ∧ t = .int .i64 k ∧ wx = w.drewN m ∧ Hid (∀ j (hj : a + j < K.size) (hi : p + j < K.size), j < k → K[a + j]'hj = K[p + j]'hi))
          case atStart => exact ⟨0, m, by omega, rfl, rfl, HA0.out p⟩
          case round =>
            obtain ⟨k, m2, hkm, rfl, rfl, HJ⟩ := hrel
            obtain ⟨k1, hk1⟩ : ∃ x, x = p + k := ⟨_, rfl⟩
            obtain ⟨k2, hk2⟩ : ∃ x, x = a + k := ⟨_, rfl⟩
            have g1 : IntKind.i64.wrap ((p : Int) + k) = (k1 : Int) := by rw [IntWalk.i64_in _ (by omega)]; omega
            have g2 : IntKind.i64.wrap ((a : Int) + k) = (k2 : Int) := by rw [IntWalk.i64_in _ (by omega)]; omega
            have f2 : (0 : Int) ≤ k1 := by omega
            have f3 : (0 : Int) ≤ k2 := by omega
            by_cases hlm : k < mo
            · have d2 : decide ((k : Int) < mo) = true := decide_eq_true (by omega)
              have d2' : decide (k < mo) = true := decide_eq_true hlm
              have h2s : k2 < K.size := by omega
              have h1s : k1 < K.size := by omega
              have f4 : (k1 : Int) < K.size := by omega
              have f5 : (k2 : Int) < K.size := by omega
              by_cases hc : K[k2]'h2s = K[k1]'h1s
              · have d3 : (((K[k1]'h1s).toNat : Int) == ((K[k2]'h2s).toNat : Int)) = true := by rw [hc]; simp
                have HCC : Hid (∀ (hj : a + k < K.size) (hi : p + k < K.size), K[a + k]'hj = K[p + k]'hi) := show ∀ hj, _ from by subst hk1 hk2; exact fun _ _ => hc
                clear hk1 hk2 hc
                go_wp2_with fail
                refine wp_region_classW (fun W => ∃ m, W = w.drewN m) (by kernel_rfl) (by kernel_rfl) ⟨m2 + 1, by rfl⟩ ?_
                iterate 19
                  refine WQ.gen (v := ?_) (by kernel_rfl) ?_ ?_
                  rotate_left
                  · rintro W ⟨m9, rfl⟩
                    go_simp
                    try with_reducible rfl
                  refine WQ.eq (a' := ?_) ?_ ?_
                  rotate_left
                  · try simp only [Act.put, List.setIfInBounds_toArray, List.set_cons_zero, List.set_cons_succ]
                    exact rfl
                refine WQ.nil ?_
                rintro w2 ⟨m3, rfl⟩
                go_wp2_with fail
                go_roundg (gk - 1)
                case measure => omega
                case rel => exact ⟨k + 1, m3, by omega, by go_num, rfl, show ∀ j, _ from fun j hj hi hjn => (Nat.lt_succ_iff_lt_or_eq.1 hjn).elim (HJ.out j hj hi) (fun h => by subst h; exact HCC.out hj hi)⟩
              · have d3 : (((K[k1]'h1s).toNat : Int) == ((K[k2]'h2s).toNat : Int)) = false := by
                  rw [beq_eq_false_iff_ne]
                  intro h
                  exact hc (UInt8.toNat_inj.1 (by omega))
                have HF : Hid (M = k) := show _ = _ from by rw [HM.out]; subst hk1 hk2; exact mch_is (by omega) (by omega) (by omega) HJ.out (.inr (.inr ⟨h2s, h1s, hc⟩))
                clear hk1 hk2 hc
                go_wp2_with fail
                refine wp_region_classW (fun W => ∃ m, W = w.drewN m) (by kernel_rfl) (by kernel_rfl) ⟨m2 + 1, by rfl⟩ ?_
                iterate 19
                  refine WQ.gen (v := ?_) (by kernel_rfl) ?_ ?_
                  rotate_left
                  · rintro W ⟨m9, rfl⟩
                    go_simp
                    try with_reducible rfl
                  refine WQ.eq (a' := ?_) ?_ ?_
                  rotate_left
                  · try simp only [Act.put, List.setIfInBounds_toArray, List.set_cons_zero, List.set_cons_succ]
                    exact rfl
                refine WQ.nil ?_
                rintro w2 ⟨m3, rfl⟩
                go_wp2_with fail
                go_meet
                case rel => exact ⟨by rw [HF.out], m3, rfl⟩
            · have d2 : decide ((k : Int) < mo) = false := decide_eq_false (by omega)
              have d2' : decide (k < mo) = false := decide_eq_false hlm
              have HF : Hid (M = k) := show _ = _ from by rw [HM.out]; exact mch_is (by omega) (by omega) (by omega) HJ.out (by have := HMO.out; by_cases h : k = 130; exact .inl h; exact .inr (.inl (by omega)))
              clear hk1 hk2
              go_wp2_with fail
              refine wp_region_classW (fun W => ∃ m, W = w.drewN m) (by kernel_rfl) (by kernel_rfl) ⟨m2 + 1, by rfl⟩ ?_
              iterate 4
                refine WQ.gen (v := ?_) (by kernel_rfl) ?_ ?_
                rotate_left
                · rintro W ⟨m9, rfl⟩
                  go_simp
                  try with_reducible rfl
                refine WQ.eq (a' := ?_) ?_ ?_
                rotate_left
                · try simp only [Act.put, List.setIfInBounds_toArray, List.set_cons_zero, List.set_cons_succ]
                  exact rfl
              refine WQ.skip (by kernel_rfl) ?_
              refine WQ.eq (a' := ?_) ?_ ?_
              rotate_left
              · try simp only [Act.put, List.setIfInBounds_toArray, List.set_cons_zero, List.set_cons_succ]
                exact rfl
              refine WQ.skip (by kernel_rfl) ?_
              refine WQ.eq (a' := ?_) ?_ ?_
              rotate_left
              · try simp only [Act.put, List.setIfInBounds_toArray, List.set_cons_zero, List.set_cons_succ]
                exact rfl
              refine WQ.skip (by kernel_rfl) ?_
              refine WQ.eq (a' := ?_) ?_ ?_
              rotate_left
              · try simp only [Act.put, List.setIfInBounds_toArray, List.set_cons_zero, List.set_cons_succ]
                exact rfl
              refine WQ.skip (by kernel_rfl) ?_
              refine WQ.eq (a' := ?_) ?_ ?_
              rotate_left
              · try simp only [Act.put, List.setIfInBounds_toArray, List.set_cons_zero, List.set_cons_succ]
                exact rfl
              refine WQ.skip (by kernel_rfl) ?_
              refine WQ.eq (a' := ?_) ?_ ?_
              rotate_left
              · try simp only [Act.put, List.setIfInBounds_toArray, List.set_cons_zero, List.set_cons_succ]
                exact rfl
              refine WQ.skip (by kernel_rfl) ?_
              refine WQ.eq (a' := ?_) ?_ ?_
              rotate_left
              · try simp only [Act.put, List.setIfInBounds_toArray, List.set_cons_zero, List.set_cons_succ]
                exact rfl
              refine WQ.skip (by kernel_rfl) ?_
              refine WQ.eq (a' := ?_) ?_ ?_
              rotate_left
              · try simp only [Act.put, List.setIfInBounds_toArray, List.set_cons_zero, List.set_cons_succ]
                exact rfl
              refine WQ.skip (by kernel_rfl) ?_
              refine WQ.eq (a' := ?_) ?_ ?_
              rotate_left
              · try simp only [Act.put, List.setIfInBounds_toArray, List.set_cons_zero, List.set_cons_succ]
                exact rfl
              refine WQ.skip (by kernel_rfl) ?_
              refine WQ.eq (a' := ?_) ?_ ?_
              rotate_left
              · try simp only [Act.put, List.setIfInBounds_toArray, List.set_cons_zero, List.set_cons_succ]
                exact rfl
              refine WQ.skip (by kernel_rfl) ?_
              refine WQ.eq (a' := ?_) ?_ ?_
              rotate_left
              · try simp only [Act.put, List.setIfInBounds_toArray, List.set_cons_zero, List.set_cons_succ]
                exact rfl
              refine WQ.skip (by kernel_rfl) ?_
              refine WQ.eq (a' := ?_) ?_ ?_
              rotate_left
              · try simp only [Act.put, List.setIfInBounds_toArray, List.set_cons_zero, List.set_cons_succ]
                exact rfl
              refine WQ.skip (by kernel_rfl) ?_
              refine WQ.eq (a' := ?_) ?_ ?_
              rotate_left
              · try simp only [Act.put, List.setIfInBounds_toArray, List.set_cons_zero, List.set_cons_succ]
                exact rfl
              refine WQ.skip (by kernel_rfl) ?_
              refine WQ.eq (a' := ?_) ?_ ?_
              rotate_left
              · try simp only [Act.put, List.setIfInBounds_toArray, List.set_cons_zero, List.set_cons_succ]
                exact rfl
              refine WQ.skip (by kernel_rfl) ?_
              refine WQ.eq (a' := ?_) ?_ ?_
              rotate_left
              · try simp only [Act.put, List.setIfInBounds_toArray, List.set_cons_zero, List.set_cons_succ]
                exact rfl
              iterate 1
                refine WQ.gen (v := ?_) (by kernel_rfl) ?_ ?_
                rotate_left
                · rintro W ⟨m9, rfl⟩
                  go_simp
                  try with_reducible rfl
                refine WQ.eq (a' := ?_) ?_ ?_
                rotate_left
                · try simp only [Act.put, List.setIfInBounds_toArray, List.set_cons_zero, List.set_cons_succ]
                  exact rfl
              refine WQ.nil ?_
              rintro w2 ⟨m3, rfl⟩
              go_wp2_with fail
              go_meet
              case rel => exact ⟨by rw [HF.out], m3, rfl⟩
        case rest =>
          obtain ⟨rfl, m5, rfl⟩ := hcut
          obtain ⟨jm, hjm⟩ : ∃ x : Int, x = (j : Int) - 1 := ⟨_, rfl⟩
          have e2 : IntKind.i64.wrap ((j : Int) - 1) = jm := by rw [IntWalk.i64_in _ (by omega)]; omega
          have hj1 : jm ≤ (j : Int) - 1 := by omega
          have hj2 : (j : Int) - 1 ≤ jm := by omega
          have hj3 : j ≤ ln := by omega
          have hM130 : M ≤ 130 := by omega
          have hjk : j < j + 1 := by omega
          have HJM : Hid (muLong { tmps := #[], defers := [] } = 1) := show _ = _ from rfl
          clear hjm
          by_cases hnM : n < M
          · have d4 : decide ((n : Int) < M) = true := decide_eq_true (by omega)
            have d4' : decide (n < M) = true := decide_eq_true hnM
            by_cases hMo : M = mo
            · have d5 : ((M : Int) == mo) = true := by rw [beq_iff_eq]; omega
              have HF : Hid (R = (M, bk)) := show _ = _ from by rw [← HEQ.out, HLN.out, if_pos hnM, if_pos hMo]
              clear hMo
              go_wp2_with fail
              go_quiet (fail)
              go_wp2_with fail
              simp only [Exit.jump]
              go_ret2
              exact ⟨by rw [HF.out]; rfl, _, rfl⟩
            · have d5 : ((M : Int) == mo) = false := by rw [beq_eq_false_iff_ne]; omega
              have HF : Hid (lng K a zs j M bk = R) := show _ = _ from by rw [← HEQ.out, HLN.out, if_pos hnM, if_neg hMo]
              clear hMo
              go_wp2_with fail
              go_quiet (fail)
              go_wp2_with fail
              apply wp_goto
              refine ⟨rfl, ⟨j, _, M, bk, jm, u6, u7, ?_, rfl, hj3, hj1, hj2, hM130, HF, ?_, ?_⟩, ?_⟩
              rotate_left 2
              · rfl
              · show (jm + 1).toNat < j + 1
                omega
              · rfl
          · have d4 : decide ((n : Int) < M) = false := decide_eq_false (by omega)
            have d4' : decide (n < M) = false := decide_eq_false hnM
            by_cases hMo : n = mo
            · have d5 : ((n : Int) == mo) = true := by rw [beq_iff_eq]; omega
              have HF : Hid (R = (n, b)) := show _ = _ from by rw [← HEQ.out, HLN.out, if_neg hnM, if_pos hMo]
              clear hMo
              go_wp2_with fail
              simp only [Exit.jump]
              go_ret2
              exact ⟨by rw [HF.out]; rfl, _, rfl⟩
            · have d5 : ((n : Int) == mo) = false := by rw [beq_eq_false_iff_ne]; omega
              have HF : Hid (lng K a zs j n b = R) := show _ = _ from by rw [← HEQ.out, HLN.out, if_neg hnM, if_neg hMo]
              clear hMo
              go_wp2_with fail
              apply wp_goto
              refine ⟨rfl, ⟨j, _, n, b, jm, u6, u7, ?_, rfl, hj3, hj1, hj2, hn, HF, ?_, ?_⟩, ?_⟩
              rotate_left 2
              · rfl
              · show (jm + 1).toNat < j + 1
                omega
              · rfl
  · intro HP
    by_cases hr : (130 : Int) ≤ rs
    · clear hrs
      go_wp2_with fail
      apply wp_label
      rename_i hk
      refine hk _ _ (HP _ w ⟨ln, 0, 0, 0, il, .int .i64 0, .int .i64 0, ?_, rfl, Nat.le_refl _, hil1, hil2, by omega, HR0, ?_, ?_⟩)
      rotate_left 2
      · rw [← HMM.out hr]
        rfl
      · rfl
    · clear hrs
      go_wp2_with fail
      apply wp_label
      rename_i hk
      refine hk _ _ (HP _ w ⟨ln, 0, 0, 0, il, .int .i64 0, .int .i64 0, ?_, rfl, Nat.le_refl _, hil1, hil2, by omega, HR0, ?_, ?_⟩)
      rotate_left 2
      · rw [← HMM2.out hr]
        rfl
      · rfl
open Go.RowKit
/-- where four bytes stand, ahead of a place -/
def occ (L : List UInt8) : Nat → List UInt8 → List Nat
  | 0, _ => []
  | t + 1, k => if (L.drop t).take 4 = k then occ L t k ++ [t] else occ L t k
theorem occ_hit {L : List UInt8} {t : Nat} {k : List UInt8} (h : (L.drop t).take 4 = k) : occ L (t + 1) k = occ L t k ++ [t] := by rw [occ, if_pos h]
theorem occ_miss {L : List UInt8} {t : Nat} {k : List UInt8} (h : (L.drop t).take 4 ≠ k) : occ L (t + 1) k = occ L t k := by rw [occ, if_neg h]
theorem occ_lt (L : List UInt8) (k : List UInt8) : ∀ t, ∀ z ∈ occ L t k, z < t
  | 0, z, h => by simp [occ] at h
  | t + 1, z, h => by
    by_cases hk : (L.drop t).take 4 = k
    · rw [occ_hit hk, List.mem_append] at h
      rcases h with h | h
      · have := occ_lt L k t z h; omega
      · simp at h; omega
    · rw [occ_miss hk] at h
      have := occ_lt L k t z h; omega
theorem occ_length (L : List UInt8) (k : List UInt8) : ∀ t, (occ L t k).length ≤ t
  | 0 => by simp [occ]
  | t + 1 => by
    have := occ_length L k t
    by_cases hk : (L.drop t).take 4 = k
    · rw [occ_hit hk, List.length_append]; simp; omega
    · rw [occ_miss hk]; omega
theorem occ_grow (L : List UInt8) (k : List UInt8) : ∀ (d t : Nat), ∃ r, occ L (t + d) k = occ L t k ++ r
  | 0, t => ⟨[], by simp⟩
  | d + 1, t => by
    obtain ⟨r, hr⟩ := occ_grow L k d t
    by_cases hk : (L.drop (t + d)).take 4 = k
    · exact ⟨r ++ [t + d], by rw [← Nat.add_assoc, occ_hit hk, hr, List.append_assoc]⟩
    · exact ⟨r, by rw [← Nat.add_assoc, occ_miss hk, hr]⟩
theorem occ_at {L : List UInt8} {t a : Nat} {k : List UInt8} (h : (L.drop t).take 4 = k) (ha : t + 1 ≤ a) : (occ L a k).getD (occ L t k).length 0 = t := by
  obtain ⟨r, hr⟩ := occ_grow L k (a - (t + 1)) (t + 1)
  rw [show t + 1 + (a - (t + 1)) = a by omega, occ_hit h] at hr
  rw [hr]
  simp [List.getD]
theorem eqN_four {k : Nat} {l r : List UInt8} (hl : 4 ≤ l.length) (hr : 4 ≤ r.length) : 4 ≤ eqN (k + 4) l r ↔ l.take 4 = r.take 4 := by
  match l, hl with
  | x0 :: x1 :: x2 :: x3 :: l, _ =>
    match r, hr with
    | y0 :: y1 :: y2 :: y3 :: r, _ =>
      simp only [eqN, List.take_succ_cons, List.take_zero, List.cons.injEq, and_true]
      by_cases h0 : x0 = y0
      · by_cases h1 : x1 = y1
        · by_cases h2 : x2 = y2
          · by_cases h3 : x3 = y3
            · simp only [h0, h1, h2, h3, if_true, and_true, iff_true]; omega
            · simp [h0, h1, h2, h3]
          · simp [h0, h1, h2]
        · simp [h0, h1]
      · simp [h0]
theorem mch_four {K : ByteArray} {a p : Nat} (ha : a + 4 ≤ K.size) (hp : p ≤ a) : 4 ≤ mch K a p ↔ (K.data.toList.drop p).take 4 = (K.data.toList.drop a).take 4 := by
  have hl : K.data.toList.length = K.size := rfl
  have h := eqN_four (k := 126) (l := K.data.toList.drop a) (r := K.data.toList.drop p) (by rw [List.length_drop, hl]; omega) (by rw [List.length_drop, hl]; omega)
  exact h.trans ⟨fun h => h.symm, fun h => h.symm⟩
/-- no match is longer than this: the nearest one that is so long stays the best -/
theorem bstD_sat {K : ByteArray} {a : Nat} (ha : a ≤ K.size) {d : Nat} (h : (bstD K a d).1 = min 130 (K.size - a)) : ∀ e, bstD K a (d + e) = bstD K a d
  | 0 => rfl
  | e + 1 => by
    have h2 := mch_le ha (a - (d + e + 1))
    rw [← Nat.add_assoc, bstD, bstD_sat ha h e, if_neg (by omega)]
/-- the two searches agree as far as it matters -/
def Ali (x y : Nat × Nat) : Prop := (x.1 < 4 ∧ y = (0, 0)) ∨ (4 ≤ x.1 ∧ y = x)
theorem lng_bst {K : ByteArray} {a : Nat} (ha : a + 4 ≤ K.size) (zs : List Nat) (hzs : zs = occ K.data.toList a ((K.data.toList.drop a).take 4)) : ∀ (t : Nat) (n b : Nat), t ≤ a → Ali (bstD K a (min (a - t) 32768)) (n, b) → Ali (bst K a) (lng K a zs (occ K.data.toList t ((K.data.toList.drop a).take 4)).length n b)
  | 0, n, b, _, h => h
  | t + 1, n, b, ht, h => by
    obtain ⟨key, hkey⟩ : ∃ key, key = (K.data.toList.drop a).take 4 := ⟨_, rfl⟩
    have hm4 := mch_four ha (show t ≤ a by omega)
    rw [← hkey] at hzs hm4 ⊢
    have IH := fun n b => lng_bst ha zs (by rw [hzs, hkey]) t n b (by omega)
    rw [← hkey] at IH
    have hsat : ∀ d, d ≤ min a 32768 → (bstD K a d).1 = min 130 (K.size - a) → bst K a = bstD K a d := fun d hd he => by
      have := bstD_sat (show a ≤ K.size by omega) he (min a 32768 - d)
      rw [show d + (min a 32768 - d) = min a 32768 by omega] at this
      exact this
    have hstep : a - t ≤ 32768 → bstD K a (min (a - t) 32768) = if (bstD K a (min (a - (t + 1)) 32768)).1 < mch K a t then (mch K a t, a - t) else bstD K a (min (a - (t + 1)) 32768) := fun hd => by
      rw [show min (a - t) 32768 = min (a - (t + 1)) 32768 + 1 by omega, bstD, show a - (min (a - (t + 1)) 32768 + 1) = t by omega, show min (a - (t + 1)) 32768 + 1 = a - t by omega]
    by_cases hk : (K.data.toList.drop t).take 4 = key
    · have hm := hm4.2 hk
      rw [occ_hit hk, List.length_append, List.length_singleton, lng, show zs.getD (occ K.data.toList t key).length 0 = t by rw [hzs]; exact occ_at hk ht]
      by_cases hfar : 32768 < a - t
      · rw [if_pos hfar]
        have : bst K a = bstD K a (min (a - (t + 1)) 32768) := by rw [bst]; congr 1; omega
        rw [this]
        exact h
      · rw [if_neg hfar]
        have hst := hstep (by omega)
        obtain ⟨x, hx⟩ : ∃ x, x = bstD K a (min (a - (t + 1)) 32768) := ⟨_, rfl⟩
        rw [← hx] at hst h
        by_cases hn : n < mch K a t
        · rw [if_pos hn]
          have hx1 : x.1 < mch K a t := by
            rcases h with ⟨h1, h2⟩ | ⟨h1, h2⟩
            · omega
            · rw [← h2]; exact hn
          rw [if_pos hx1] at hst
          by_cases he : mch K a t = min 130 (K.size - a)
          · rw [if_pos he, hsat (min (a - t) 32768) (by omega) (by rw [hst]; exact he), hst]
            exact .inr ⟨hm, rfl⟩
          · rw [if_neg he]
            exact IH _ _ (by rw [hst]; exact .inr ⟨hm, rfl⟩)
        · rw [if_neg hn]
          have hx4 : 4 ≤ x.1 ∧ (n, b) = x := by
            rcases h with ⟨h1, h2⟩ | h2
            · have := (Prod.mk.inj h2).1; omega
            · exact h2
          have hxn : x.1 = n := by rw [← hx4.2]
          rw [if_neg (by omega)] at hst
          by_cases he : n = min 130 (K.size - a)
          · rw [if_pos he, hsat (min (a - t) 32768) (by omega) (by rw [hst, hxn]; exact he), hst]
            exact .inr hx4
          · rw [if_neg he]
            exact IH _ _ (by rw [hst]; exact .inr hx4)
    · have hm : mch K a t < 4 := Nat.lt_of_not_le fun h4 => hk (hm4.1 h4)
      rw [occ_miss hk]
      refine IH _ _ ?_
      by_cases hfar : 32768 < a - t
      · rw [show min (a - t) 32768 = min (a - (t + 1)) 32768 by omega]
        exact h
      · rw [hstep (by omega)]
        split
        · rename_i hlt
          rcases h with ⟨h1, h2⟩ | ⟨h1, h2⟩
          · exact .inl ⟨by simp only; exact hm, h2⟩
          · omega
        · exact h
/-- what longest tells of the places that are noted -/
theorem lng_is {K : ByteArray} {a : Nat} (ha : a + 4 ≤ K.size) (zs : List Nat) (hzs : zs = occ K.data.toList a ((K.data.toList.drop a).take 4)) : Ali (bst K a) (lng K a zs zs.length 0 0) := by
  have h := lng_bst ha zs hzs a 0 0 (Nat.le_refl _) (.inl ⟨by rw [Nat.sub_self]; simp [bstD], rfl⟩)
  rw [← hzs] at h
  exact h
end Go.Proofs.YtbeooeihedhabaaDoor
