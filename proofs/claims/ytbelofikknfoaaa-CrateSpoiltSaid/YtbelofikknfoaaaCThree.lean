/- cavalcaderef06.three: what the call does. -/
import Derived.Test.YtbelofikknfoaaaCRPack
namespace Go.Proofs.Ytbelofikknfoaaa
open Go.RowKit
set_option maxHeartbeats 2000000
set_option maxRecDepth 4000
theorem three_get {s : ByteArray} {a : Nat} (h : a + 2 < s.size) : three (s.data.toList.drop a) = (s[a]'(by omega) == s[a + 1]'(by omega) && s[a]'(by omega) == s[a + 2]'h) := by
  have hl : s.data.toList.length = s.size := rfl
  rw [three_at (show a + 2 < s.data.toList.length by rw [hl]; exact h)]
  rfl
theorem three6_any (s : ByteArray) (a : Nat) (w : World) (hs : s.size ≤ 140737488355328) (ha : a ≤ s.size) :
    Calls Try.prog 34 #[.string s, .int .i64 a] w fun e w' => e = .returned (.bool (three (s.data.toList.drop a))) ∧ Below w.heap.size w w' := by
  have hl : s.data.toList.length = s.size := rfl
  obtain ⟨k1, h1⟩ : ∃ k, k = a + 1 := ⟨_, rfl⟩
  obtain ⟨k2, h2⟩ : ∃ k, k = a + 2 := ⟨_, rfl⟩
  have e1 : IntKind.i64.wrap ((a : Int) + 1) = (k1 : Int) := by rw [IntWalk.i64_in _ (by omega)]; omega
  have e2 : IntKind.i64.wrap ((a : Int) + 2) = (k2 : Int) := by rw [IntWalk.i64_in _ (by omega)]; omega
  have f0 : (0 : Int) ≤ a := by omega
  have f1 : (0 : Int) ≤ k1 := by omega
  have f2 : (0 : Int) ≤ k2 := by omega
  by_cases hlt : k2 < s.size
  · have d0 : decide ((k2 : Int) < s.size) = true := decide_eq_true (by omega)
    have g0 : (a : Int) < s.size := by omega
    have g1 : (k1 : Int) < s.size := by omega
    have g2 : (k2 : Int) < s.size := by omega
    have hla : a < s.size := by omega
    have hl1 : k1 < s.size := by omega
    have HT : Hid (three (s.data.toList.drop a) = (s[a]'hla == s[k1]'hl1 && s[a]'hla == s[k2]'hlt)) := show _ = _ from by subst h1 h2; exact three_get hlt
    generalize three (s.data.toList.drop a) = R at *
    clear h1 h2
    by_cases hc : s[a]'hla = s[k1]'hl1
    · have d1 : (((s[a]'hla).toNat : Int) == ((s[k1]'hl1).toNat : Int)) = true := by rw [hc]; simp
      by_cases hd : s[a]'hla = s[k2]'hlt
      · have d2 : (((s[a]'hla).toNat : Int) == ((s[k2]'hlt).toNat : Int)) = true := by rw [hd]; simp
        have HR : Hid (R = true) := show _ = _ from by rw [HT.out, ← hc, ← hd]; simp
        clear hc hd
        go_enter Try.func34, Try.ntmps34
        go_wp2_with fail
        refine wp_region_classW (fun W => Below w.heap.size w W) (by kernel_rfl) (by kernel_rfl) (Below.refl _ _).drew ?_
        refine WQ.gen (v := ?_) (by kernel_rfl) ?_ ?_
        rotate_left
        · intro W hC
          go_simp
          try with_reducible rfl
        refine WQ.eq (a' := ?_) ?_ ?_
        rotate_left
        · try simp only [Act.put, List.setIfInBounds_toArray, List.set_cons_zero, List.set_cons_succ]
          exact rfl
        refine WQ.gen (v := ?_) (by kernel_rfl) ?_ ?_
        rotate_left
        · intro W hC
          go_simp
          try with_reducible rfl
        refine WQ.eq (a' := ?_) ?_ ?_
        rotate_left
        · try simp only [Act.put, List.setIfInBounds_toArray, List.set_cons_zero, List.set_cons_succ]
          exact rfl
        refine WQ.gen (v := ?_) (by kernel_rfl) ?_ ?_
        rotate_left
        · intro W hC
          go_simp
          try with_reducible rfl
        refine WQ.eq (a' := ?_) ?_ ?_
        rotate_left
        · try simp only [Act.put, List.setIfInBounds_toArray, List.set_cons_zero, List.set_cons_succ]
          exact rfl
        refine WQ.gen (v := ?_) (by kernel_rfl) ?_ ?_
        rotate_left
        · intro W hC
          go_simp
          try with_reducible rfl
        refine WQ.eq (a' := ?_) ?_ ?_
        rotate_left
        · try simp only [Act.put, List.setIfInBounds_toArray, List.set_cons_zero, List.set_cons_succ]
          exact rfl
        refine WQ.gen (v := ?_) (by kernel_rfl) ?_ ?_
        rotate_left
        · intro W hC
          go_simp
          try with_reducible rfl
        refine WQ.eq (a' := ?_) ?_ ?_
        rotate_left
        · try simp only [Act.put, List.setIfInBounds_toArray, List.set_cons_zero, List.set_cons_succ]
          exact rfl
        refine WQ.gen (v := ?_) (by kernel_rfl) ?_ ?_
        rotate_left
        · intro W hC
          go_simp
          try with_reducible rfl
        refine WQ.eq (a' := ?_) ?_ ?_
        rotate_left
        · try simp only [Act.put, List.setIfInBounds_toArray, List.set_cons_zero, List.set_cons_succ]
          exact rfl
        refine WQ.gen (v := ?_) (by kernel_rfl) ?_ ?_
        rotate_left
        · intro W hC
          go_simp
          try with_reducible rfl
        refine WQ.eq (a' := ?_) ?_ ?_
        rotate_left
        · try simp only [Act.put, List.setIfInBounds_toArray, List.set_cons_zero, List.set_cons_succ]
          exact rfl
        refine WQ.gen (v := ?_) (by kernel_rfl) ?_ ?_
        rotate_left
        · intro W hC
          go_simp
          try with_reducible rfl
        refine WQ.eq (a' := ?_) ?_ ?_
        rotate_left
        · try simp only [Act.put, List.setIfInBounds_toArray, List.set_cons_zero, List.set_cons_succ]
          exact rfl
        refine WQ.gen (v := ?_) (by kernel_rfl) ?_ ?_
        rotate_left
        · intro W hC
          go_simp
          try with_reducible rfl
        refine WQ.eq (a' := ?_) ?_ ?_
        rotate_left
        · try simp only [Act.put, List.setIfInBounds_toArray, List.set_cons_zero, List.set_cons_succ]
          exact rfl
        refine WQ.gen (v := ?_) (by kernel_rfl) ?_ ?_
        rotate_left
        · intro W hC
          go_simp
          try with_reducible rfl
        refine WQ.eq (a' := ?_) ?_ ?_
        rotate_left
        · try simp only [Act.put, List.setIfInBounds_toArray, List.set_cons_zero, List.set_cons_succ]
          exact rfl
        refine WQ.gen (v := ?_) (by kernel_rfl) ?_ ?_
        rotate_left
        · intro W hC
          go_simp
          try with_reducible rfl
        refine WQ.eq (a' := ?_) ?_ ?_
        rotate_left
        · try simp only [Act.put, List.setIfInBounds_toArray, List.set_cons_zero, List.set_cons_succ]
          exact rfl
        refine WQ.gen (v := ?_) (by kernel_rfl) ?_ ?_
        rotate_left
        · intro W hC
          go_simp
          try with_reducible rfl
        refine WQ.eq (a' := ?_) ?_ ?_
        rotate_left
        · try simp only [Act.put, List.setIfInBounds_toArray, List.set_cons_zero, List.set_cons_succ]
          exact rfl
        refine WQ.gen (v := ?_) (by kernel_rfl) ?_ ?_
        rotate_left
        · intro W hC
          go_simp
          try with_reducible rfl
        refine WQ.eq (a' := ?_) ?_ ?_
        rotate_left
        · try simp only [Act.put, List.setIfInBounds_toArray, List.set_cons_zero, List.set_cons_succ]
          exact rfl
        refine WQ.gen (v := ?_) (by kernel_rfl) ?_ ?_
        rotate_left
        · intro W hC
          go_simp
          try with_reducible rfl
        refine WQ.eq (a' := ?_) ?_ ?_
        rotate_left
        · try simp only [Act.put, List.setIfInBounds_toArray, List.set_cons_zero, List.set_cons_succ]
          exact rfl
        refine WQ.gen (v := ?_) (by kernel_rfl) ?_ ?_
        rotate_left
        · intro W hC
          go_simp
          try with_reducible rfl
        refine WQ.eq (a' := ?_) ?_ ?_
        rotate_left
        · try simp only [Act.put, List.setIfInBounds_toArray, List.set_cons_zero, List.set_cons_succ]
          exact rfl
        refine WQ.gen (v := ?_) (by kernel_rfl) ?_ ?_
        rotate_left
        · intro W hC
          go_simp
          try with_reducible rfl
        refine WQ.eq (a' := ?_) ?_ ?_
        rotate_left
        · try simp only [Act.put, List.setIfInBounds_toArray, List.set_cons_zero, List.set_cons_succ]
          exact rfl
        refine WQ.gen (v := ?_) (by kernel_rfl) ?_ ?_
        rotate_left
        · intro W hC
          go_simp
          try with_reducible rfl
        refine WQ.eq (a' := ?_) ?_ ?_
        rotate_left
        · try simp only [Act.put, List.setIfInBounds_toArray, List.set_cons_zero, List.set_cons_succ]
          exact rfl
        refine WQ.gen (v := ?_) (by kernel_rfl) ?_ ?_
        rotate_left
        · intro W hC
          go_simp
          try with_reducible rfl
        refine WQ.eq (a' := ?_) ?_ ?_
        rotate_left
        · try simp only [Act.put, List.setIfInBounds_toArray, List.set_cons_zero, List.set_cons_succ]
          exact rfl
        refine WQ.gen (v := ?_) (by kernel_rfl) ?_ ?_
        rotate_left
        · intro W hC
          go_simp
          try with_reducible rfl
        refine WQ.eq (a' := ?_) ?_ ?_
        rotate_left
        · try simp only [Act.put, List.setIfInBounds_toArray, List.set_cons_zero, List.set_cons_succ]
          exact rfl
        refine WQ.gen (v := ?_) (by kernel_rfl) ?_ ?_
        rotate_left
        · intro W hC
          go_simp
          try with_reducible rfl
        refine WQ.eq (a' := ?_) ?_ ?_
        rotate_left
        · try simp only [Act.put, List.setIfInBounds_toArray, List.set_cons_zero, List.set_cons_succ]
          exact rfl
        refine WQ.gen (v := ?_) (by kernel_rfl) ?_ ?_
        rotate_left
        · intro W hC
          go_simp
          try with_reducible rfl
        refine WQ.eq (a' := ?_) ?_ ?_
        rotate_left
        · try simp only [Act.put, List.setIfInBounds_toArray, List.set_cons_zero, List.set_cons_succ]
          exact rfl
        refine WQ.gen (v := ?_) (by kernel_rfl) ?_ ?_
        rotate_left
        · intro W hC
          go_simp
          try with_reducible rfl
        refine WQ.eq (a' := ?_) ?_ ?_
        rotate_left
        · try simp only [Act.put, List.setIfInBounds_toArray, List.set_cons_zero, List.set_cons_succ]
          exact rfl
        refine WQ.gen (v := ?_) (by kernel_rfl) ?_ ?_
        rotate_left
        · intro W hC
          go_simp
          try with_reducible rfl
        refine WQ.eq (a' := ?_) ?_ ?_
        rotate_left
        · try simp only [Act.put, List.setIfInBounds_toArray, List.set_cons_zero, List.set_cons_succ]
          exact rfl
        refine WQ.gen (v := ?_) (by kernel_rfl) ?_ ?_
        rotate_left
        · intro W hC
          go_simp
          try with_reducible rfl
        refine WQ.eq (a' := ?_) ?_ ?_
        rotate_left
        · try simp only [Act.put, List.setIfInBounds_toArray, List.set_cons_zero, List.set_cons_succ]
          exact rfl
        refine WQ.gen (v := ?_) (by kernel_rfl) ?_ ?_
        rotate_left
        · intro W hC
          go_simp
          try with_reducible rfl
        refine WQ.eq (a' := ?_) ?_ ?_
        rotate_left
        · try simp only [Act.put, List.setIfInBounds_toArray, List.set_cons_zero, List.set_cons_succ]
          exact rfl
        refine WQ.gen (v := ?_) (by kernel_rfl) ?_ ?_
        rotate_left
        · intro W hC
          go_simp
          try with_reducible rfl
        refine WQ.eq (a' := ?_) ?_ ?_
        rotate_left
        · try simp only [Act.put, List.setIfInBounds_toArray, List.set_cons_zero, List.set_cons_succ]
          exact rfl
        refine WQ.nil ?_
        intro w2 hB2
        have HB2 := Lib.hid hB2
        clear hB2
        go_wp2_with fail
        go_ret
        exact ⟨by rw [HR.out]; rfl, HB2.out⟩
      · have d2 : (((s[a]'hla).toNat : Int) == ((s[k2]'hlt).toNat : Int)) = false := by
          rw [beq_eq_false_iff_ne]
          intro h
          exact hd (UInt8.toNat_inj.1 (by omega))
        have HR : Hid (R = false) := show _ = _ from by rw [HT.out]; simp [hd]
        clear hc hd
        go_enter Try.func34, Try.ntmps34
        go_wp2_with fail
        refine wp_region_classW (fun W => Below w.heap.size w W) (by kernel_rfl) (by kernel_rfl) (Below.refl _ _).drew ?_
        refine WQ.gen (v := ?_) (by kernel_rfl) ?_ ?_
        rotate_left
        · intro W hC
          go_simp
          try with_reducible rfl
        refine WQ.eq (a' := ?_) ?_ ?_
        rotate_left
        · try simp only [Act.put, List.setIfInBounds_toArray, List.set_cons_zero, List.set_cons_succ]
          exact rfl
        refine WQ.gen (v := ?_) (by kernel_rfl) ?_ ?_
        rotate_left
        · intro W hC
          go_simp
          try with_reducible rfl
        refine WQ.eq (a' := ?_) ?_ ?_
        rotate_left
        · try simp only [Act.put, List.setIfInBounds_toArray, List.set_cons_zero, List.set_cons_succ]
          exact rfl
        refine WQ.gen (v := ?_) (by kernel_rfl) ?_ ?_
        rotate_left
        · intro W hC
          go_simp
          try with_reducible rfl
        refine WQ.eq (a' := ?_) ?_ ?_
        rotate_left
        · try simp only [Act.put, List.setIfInBounds_toArray, List.set_cons_zero, List.set_cons_succ]
          exact rfl
        refine WQ.gen (v := ?_) (by kernel_rfl) ?_ ?_
        rotate_left
        · intro W hC
          go_simp
          try with_reducible rfl
        refine WQ.eq (a' := ?_) ?_ ?_
        rotate_left
        · try simp only [Act.put, List.setIfInBounds_toArray, List.set_cons_zero, List.set_cons_succ]
          exact rfl
        refine WQ.gen (v := ?_) (by kernel_rfl) ?_ ?_
        rotate_left
        · intro W hC
          go_simp
          try with_reducible rfl
        refine WQ.eq (a' := ?_) ?_ ?_
        rotate_left
        · try simp only [Act.put, List.setIfInBounds_toArray, List.set_cons_zero, List.set_cons_succ]
          exact rfl
        refine WQ.gen (v := ?_) (by kernel_rfl) ?_ ?_
        rotate_left
        · intro W hC
          go_simp
          try with_reducible rfl
        refine WQ.eq (a' := ?_) ?_ ?_
        rotate_left
        · try simp only [Act.put, List.setIfInBounds_toArray, List.set_cons_zero, List.set_cons_succ]
          exact rfl
        refine WQ.gen (v := ?_) (by kernel_rfl) ?_ ?_
        rotate_left
        · intro W hC
          go_simp
          try with_reducible rfl
        refine WQ.eq (a' := ?_) ?_ ?_
        rotate_left
        · try simp only [Act.put, List.setIfInBounds_toArray, List.set_cons_zero, List.set_cons_succ]
          exact rfl
        refine WQ.gen (v := ?_) (by kernel_rfl) ?_ ?_
        rotate_left
        · intro W hC
          go_simp
          try with_reducible rfl
        refine WQ.eq (a' := ?_) ?_ ?_
        rotate_left
        · try simp only [Act.put, List.setIfInBounds_toArray, List.set_cons_zero, List.set_cons_succ]
          exact rfl
        refine WQ.gen (v := ?_) (by kernel_rfl) ?_ ?_
        rotate_left
        · intro W hC
          go_simp
          try with_reducible rfl
        refine WQ.eq (a' := ?_) ?_ ?_
        rotate_left
        · try simp only [Act.put, List.setIfInBounds_toArray, List.set_cons_zero, List.set_cons_succ]
          exact rfl
        refine WQ.gen (v := ?_) (by kernel_rfl) ?_ ?_
        rotate_left
        · intro W hC
          go_simp
          try with_reducible rfl
        refine WQ.eq (a' := ?_) ?_ ?_
        rotate_left
        · try simp only [Act.put, List.setIfInBounds_toArray, List.set_cons_zero, List.set_cons_succ]
          exact rfl
        refine WQ.gen (v := ?_) (by kernel_rfl) ?_ ?_
        rotate_left
        · intro W hC
          go_simp
          try with_reducible rfl
        refine WQ.eq (a' := ?_) ?_ ?_
        rotate_left
        · try simp only [Act.put, List.setIfInBounds_toArray, List.set_cons_zero, List.set_cons_succ]
          exact rfl
        refine WQ.gen (v := ?_) (by kernel_rfl) ?_ ?_
        rotate_left
        · intro W hC
          go_simp
          try with_reducible rfl
        refine WQ.eq (a' := ?_) ?_ ?_
        rotate_left
        · try simp only [Act.put, List.setIfInBounds_toArray, List.set_cons_zero, List.set_cons_succ]
          exact rfl
        refine WQ.gen (v := ?_) (by kernel_rfl) ?_ ?_
        rotate_left
        · intro W hC
          go_simp
          try with_reducible rfl
        refine WQ.eq (a' := ?_) ?_ ?_
        rotate_left
        · try simp only [Act.put, List.setIfInBounds_toArray, List.set_cons_zero, List.set_cons_succ]
          exact rfl
        refine WQ.gen (v := ?_) (by kernel_rfl) ?_ ?_
        rotate_left
        · intro W hC
          go_simp
          try with_reducible rfl
        refine WQ.eq (a' := ?_) ?_ ?_
        rotate_left
        · try simp only [Act.put, List.setIfInBounds_toArray, List.set_cons_zero, List.set_cons_succ]
          exact rfl
        refine WQ.gen (v := ?_) (by kernel_rfl) ?_ ?_
        rotate_left
        · intro W hC
          go_simp
          try with_reducible rfl
        refine WQ.eq (a' := ?_) ?_ ?_
        rotate_left
        · try simp only [Act.put, List.setIfInBounds_toArray, List.set_cons_zero, List.set_cons_succ]
          exact rfl
        refine WQ.gen (v := ?_) (by kernel_rfl) ?_ ?_
        rotate_left
        · intro W hC
          go_simp
          try with_reducible rfl
        refine WQ.eq (a' := ?_) ?_ ?_
        rotate_left
        · try simp only [Act.put, List.setIfInBounds_toArray, List.set_cons_zero, List.set_cons_succ]
          exact rfl
        refine WQ.gen (v := ?_) (by kernel_rfl) ?_ ?_
        rotate_left
        · intro W hC
          go_simp
          try with_reducible rfl
        refine WQ.eq (a' := ?_) ?_ ?_
        rotate_left
        · try simp only [Act.put, List.setIfInBounds_toArray, List.set_cons_zero, List.set_cons_succ]
          exact rfl
        refine WQ.gen (v := ?_) (by kernel_rfl) ?_ ?_
        rotate_left
        · intro W hC
          go_simp
          try with_reducible rfl
        refine WQ.eq (a' := ?_) ?_ ?_
        rotate_left
        · try simp only [Act.put, List.setIfInBounds_toArray, List.set_cons_zero, List.set_cons_succ]
          exact rfl
        refine WQ.gen (v := ?_) (by kernel_rfl) ?_ ?_
        rotate_left
        · intro W hC
          go_simp
          try with_reducible rfl
        refine WQ.eq (a' := ?_) ?_ ?_
        rotate_left
        · try simp only [Act.put, List.setIfInBounds_toArray, List.set_cons_zero, List.set_cons_succ]
          exact rfl
        refine WQ.gen (v := ?_) (by kernel_rfl) ?_ ?_
        rotate_left
        · intro W hC
          go_simp
          try with_reducible rfl
        refine WQ.eq (a' := ?_) ?_ ?_
        rotate_left
        · try simp only [Act.put, List.setIfInBounds_toArray, List.set_cons_zero, List.set_cons_succ]
          exact rfl
        refine WQ.gen (v := ?_) (by kernel_rfl) ?_ ?_
        rotate_left
        · intro W hC
          go_simp
          try with_reducible rfl
        refine WQ.eq (a' := ?_) ?_ ?_
        rotate_left
        · try simp only [Act.put, List.setIfInBounds_toArray, List.set_cons_zero, List.set_cons_succ]
          exact rfl
        refine WQ.gen (v := ?_) (by kernel_rfl) ?_ ?_
        rotate_left
        · intro W hC
          go_simp
          try with_reducible rfl
        refine WQ.eq (a' := ?_) ?_ ?_
        rotate_left
        · try simp only [Act.put, List.setIfInBounds_toArray, List.set_cons_zero, List.set_cons_succ]
          exact rfl
        refine WQ.gen (v := ?_) (by kernel_rfl) ?_ ?_
        rotate_left
        · intro W hC
          go_simp
          try with_reducible rfl
        refine WQ.eq (a' := ?_) ?_ ?_
        rotate_left
        · try simp only [Act.put, List.setIfInBounds_toArray, List.set_cons_zero, List.set_cons_succ]
          exact rfl
        refine WQ.gen (v := ?_) (by kernel_rfl) ?_ ?_
        rotate_left
        · intro W hC
          go_simp
          try with_reducible rfl
        refine WQ.eq (a' := ?_) ?_ ?_
        rotate_left
        · try simp only [Act.put, List.setIfInBounds_toArray, List.set_cons_zero, List.set_cons_succ]
          exact rfl
        refine WQ.gen (v := ?_) (by kernel_rfl) ?_ ?_
        rotate_left
        · intro W hC
          go_simp
          try with_reducible rfl
        refine WQ.eq (a' := ?_) ?_ ?_
        rotate_left
        · try simp only [Act.put, List.setIfInBounds_toArray, List.set_cons_zero, List.set_cons_succ]
          exact rfl
        refine WQ.gen (v := ?_) (by kernel_rfl) ?_ ?_
        rotate_left
        · intro W hC
          go_simp
          try with_reducible rfl
        refine WQ.eq (a' := ?_) ?_ ?_
        rotate_left
        · try simp only [Act.put, List.setIfInBounds_toArray, List.set_cons_zero, List.set_cons_succ]
          exact rfl
        refine WQ.nil ?_
        intro w2 hB2
        have HB2 := Lib.hid hB2
        clear hB2
        go_wp2_with fail
        go_ret
        exact ⟨by rw [HR.out]; rfl, HB2.out⟩
    · have d1 : (((s[a]'hla).toNat : Int) == ((s[k1]'hl1).toNat : Int)) = false := by
        rw [beq_eq_false_iff_ne]
        intro h
        exact hc (UInt8.toNat_inj.1 (by omega))
      have HR : Hid (R = false) := show _ = _ from by rw [HT.out]; simp [hc]
      clear hc
      go_enter Try.func34, Try.ntmps34
      go_wp2_with fail
      refine wp_region_classW (fun W => Below w.heap.size w W) (by kernel_rfl) (by kernel_rfl) (Below.refl _ _).drew ?_
      refine WQ.gen (v := ?_) (by kernel_rfl) ?_ ?_
      rotate_left
      · intro W hC
        go_simp
        try with_reducible rfl
      refine WQ.eq (a' := ?_) ?_ ?_
      rotate_left
      · try simp only [Act.put, List.setIfInBounds_toArray, List.set_cons_zero, List.set_cons_succ]
        exact rfl
      refine WQ.gen (v := ?_) (by kernel_rfl) ?_ ?_
      rotate_left
      · intro W hC
        go_simp
        try with_reducible rfl
      refine WQ.eq (a' := ?_) ?_ ?_
      rotate_left
      · try simp only [Act.put, List.setIfInBounds_toArray, List.set_cons_zero, List.set_cons_succ]
        exact rfl
      refine WQ.gen (v := ?_) (by kernel_rfl) ?_ ?_
      rotate_left
      · intro W hC
        go_simp
        try with_reducible rfl
      refine WQ.eq (a' := ?_) ?_ ?_
      rotate_left
      · try simp only [Act.put, List.setIfInBounds_toArray, List.set_cons_zero, List.set_cons_succ]
        exact rfl
      refine WQ.gen (v := ?_) (by kernel_rfl) ?_ ?_
      rotate_left
      · intro W hC
        go_simp
        try with_reducible rfl
      refine WQ.eq (a' := ?_) ?_ ?_
      rotate_left
      · try simp only [Act.put, List.setIfInBounds_toArray, List.set_cons_zero, List.set_cons_succ]
        exact rfl
      refine WQ.gen (v := ?_) (by kernel_rfl) ?_ ?_
      rotate_left
      · intro W hC
        go_simp
        try with_reducible rfl
      refine WQ.eq (a' := ?_) ?_ ?_
      rotate_left
      · try simp only [Act.put, List.setIfInBounds_toArray, List.set_cons_zero, List.set_cons_succ]
        exact rfl
      refine WQ.gen (v := ?_) (by kernel_rfl) ?_ ?_
      rotate_left
      · intro W hC
        go_simp
        try with_reducible rfl
      refine WQ.eq (a' := ?_) ?_ ?_
      rotate_left
      · try simp only [Act.put, List.setIfInBounds_toArray, List.set_cons_zero, List.set_cons_succ]
        exact rfl
      refine WQ.gen (v := ?_) (by kernel_rfl) ?_ ?_
      rotate_left
      · intro W hC
        go_simp
        try with_reducible rfl
      refine WQ.eq (a' := ?_) ?_ ?_
      rotate_left
      · try simp only [Act.put, List.setIfInBounds_toArray, List.set_cons_zero, List.set_cons_succ]
        exact rfl
      refine WQ.gen (v := ?_) (by kernel_rfl) ?_ ?_
      rotate_left
      · intro W hC
        go_simp
        try with_reducible rfl
      refine WQ.eq (a' := ?_) ?_ ?_
      rotate_left
      · try simp only [Act.put, List.setIfInBounds_toArray, List.set_cons_zero, List.set_cons_succ]
        exact rfl
      refine WQ.gen (v := ?_) (by kernel_rfl) ?_ ?_
      rotate_left
      · intro W hC
        go_simp
        try with_reducible rfl
      refine WQ.eq (a' := ?_) ?_ ?_
      rotate_left
      · try simp only [Act.put, List.setIfInBounds_toArray, List.set_cons_zero, List.set_cons_succ]
        exact rfl
      refine WQ.gen (v := ?_) (by kernel_rfl) ?_ ?_
      rotate_left
      · intro W hC
        go_simp
        try with_reducible rfl
      refine WQ.eq (a' := ?_) ?_ ?_
      rotate_left
      · try simp only [Act.put, List.setIfInBounds_toArray, List.set_cons_zero, List.set_cons_succ]
        exact rfl
      refine WQ.gen (v := ?_) (by kernel_rfl) ?_ ?_
      rotate_left
      · intro W hC
        go_simp
        try with_reducible rfl
      refine WQ.eq (a' := ?_) ?_ ?_
      rotate_left
      · try simp only [Act.put, List.setIfInBounds_toArray, List.set_cons_zero, List.set_cons_succ]
        exact rfl
      refine WQ.gen (v := ?_) (by kernel_rfl) ?_ ?_
      rotate_left
      · intro W hC
        go_simp
        try with_reducible rfl
      refine WQ.eq (a' := ?_) ?_ ?_
      rotate_left
      · try simp only [Act.put, List.setIfInBounds_toArray, List.set_cons_zero, List.set_cons_succ]
        exact rfl
      refine WQ.gen (v := ?_) (by kernel_rfl) ?_ ?_
      rotate_left
      · intro W hC
        go_simp
        try with_reducible rfl
      refine WQ.eq (a' := ?_) ?_ ?_
      rotate_left
      · try simp only [Act.put, List.setIfInBounds_toArray, List.set_cons_zero, List.set_cons_succ]
        exact rfl
      refine WQ.gen (v := ?_) (by kernel_rfl) ?_ ?_
      rotate_left
      · intro W hC
        go_simp
        try with_reducible rfl
      refine WQ.eq (a' := ?_) ?_ ?_
      rotate_left
      · try simp only [Act.put, List.setIfInBounds_toArray, List.set_cons_zero, List.set_cons_succ]
        exact rfl
      refine WQ.gen (v := ?_) (by kernel_rfl) ?_ ?_
      rotate_left
      · intro W hC
        go_simp
        try with_reducible rfl
      refine WQ.eq (a' := ?_) ?_ ?_
      rotate_left
      · try simp only [Act.put, List.setIfInBounds_toArray, List.set_cons_zero, List.set_cons_succ]
        exact rfl
      refine WQ.gen (v := ?_) (by kernel_rfl) ?_ ?_
      rotate_left
      · intro W hC
        go_simp
        try with_reducible rfl
      refine WQ.eq (a' := ?_) ?_ ?_
      rotate_left
      · try simp only [Act.put, List.setIfInBounds_toArray, List.set_cons_zero, List.set_cons_succ]
        exact rfl
      refine WQ.skip (by kernel_rfl) ?_
      refine WQ.eq (a' := ?_) ?_ ?_
      rotate_left
      · try simp only [Act.put, List.setIfInBounds_toArray, List.set_cons_zero, List.set_cons_succ]
        exact rfl
      refine WQ.skip (by kernel_rfl) ?_
      refine WQ.eq (a' := ?_) ?_ ?_
      rotate_left
      · try simp only [Act.put, List.setIfInBounds_toArray, List.set_cons_zero, List.set_cons_succ]
        exact rfl
      refine WQ.skip (by kernel_rfl) ?_
      refine WQ.eq (a' := ?_) ?_ ?_
      rotate_left
      · try simp only [Act.put, List.setIfInBounds_toArray, List.set_cons_zero, List.set_cons_succ]
        exact rfl
      refine WQ.skip (by kernel_rfl) ?_
      refine WQ.eq (a' := ?_) ?_ ?_
      rotate_left
      · try simp only [Act.put, List.setIfInBounds_toArray, List.set_cons_zero, List.set_cons_succ]
        exact rfl
      refine WQ.skip (by kernel_rfl) ?_
      refine WQ.eq (a' := ?_) ?_ ?_
      rotate_left
      · try simp only [Act.put, List.setIfInBounds_toArray, List.set_cons_zero, List.set_cons_succ]
        exact rfl
      refine WQ.skip (by kernel_rfl) ?_
      refine WQ.eq (a' := ?_) ?_ ?_
      rotate_left
      · try simp only [Act.put, List.setIfInBounds_toArray, List.set_cons_zero, List.set_cons_succ]
        exact rfl
      refine WQ.skip (by kernel_rfl) ?_
      refine WQ.eq (a' := ?_) ?_ ?_
      rotate_left
      · try simp only [Act.put, List.setIfInBounds_toArray, List.set_cons_zero, List.set_cons_succ]
        exact rfl
      refine WQ.skip (by kernel_rfl) ?_
      refine WQ.eq (a' := ?_) ?_ ?_
      rotate_left
      · try simp only [Act.put, List.setIfInBounds_toArray, List.set_cons_zero, List.set_cons_succ]
        exact rfl
      refine WQ.gen (v := ?_) (by kernel_rfl) ?_ ?_
      rotate_left
      · intro W hC
        go_simp
        try with_reducible rfl
      refine WQ.eq (a' := ?_) ?_ ?_
      rotate_left
      · try simp only [Act.put, List.setIfInBounds_toArray, List.set_cons_zero, List.set_cons_succ]
        exact rfl
      refine WQ.gen (v := ?_) (by kernel_rfl) ?_ ?_
      rotate_left
      · intro W hC
        go_simp
        try with_reducible rfl
      refine WQ.eq (a' := ?_) ?_ ?_
      rotate_left
      · try simp only [Act.put, List.setIfInBounds_toArray, List.set_cons_zero, List.set_cons_succ]
        exact rfl
      refine WQ.nil ?_
      intro w2 hB2
      have HB2 := Lib.hid hB2
      clear hB2
      go_wp2_with fail
      go_ret
      exact ⟨by rw [HR.out]; rfl, HB2.out⟩
  · have d0 : decide ((k2 : Int) < s.size) = false := decide_eq_false (by omega)
    have HR : Hid (three (s.data.toList.drop a) = false) := show _ = _ from three_end (by rw [hl]; omega)
    generalize three (s.data.toList.drop a) = R at *
    clear h1 h2
    go_enter Try.func34, Try.ntmps34
    go_wp2_with fail
    refine wp_region_classW (fun W => Below w.heap.size w W) (by kernel_rfl) (by kernel_rfl) (Below.refl _ _).drew ?_
    refine WQ.gen (v := ?_) (by kernel_rfl) ?_ ?_
    rotate_left
    · intro W hC
      go_simp
      try with_reducible rfl
    refine WQ.eq (a' := ?_) ?_ ?_
    rotate_left
    · try simp only [Act.put, List.setIfInBounds_toArray, List.set_cons_zero, List.set_cons_succ]
      exact rfl
    refine WQ.gen (v := ?_) (by kernel_rfl) ?_ ?_
    rotate_left
    · intro W hC
      go_simp
      try with_reducible rfl
    refine WQ.eq (a' := ?_) ?_ ?_
    rotate_left
    · try simp only [Act.put, List.setIfInBounds_toArray, List.set_cons_zero, List.set_cons_succ]
      exact rfl
    refine WQ.gen (v := ?_) (by kernel_rfl) ?_ ?_
    rotate_left
    · intro W hC
      go_simp
      try with_reducible rfl
    refine WQ.eq (a' := ?_) ?_ ?_
    rotate_left
    · try simp only [Act.put, List.setIfInBounds_toArray, List.set_cons_zero, List.set_cons_succ]
      exact rfl
    refine WQ.gen (v := ?_) (by kernel_rfl) ?_ ?_
    rotate_left
    · intro W hC
      go_simp
      try with_reducible rfl
    refine WQ.eq (a' := ?_) ?_ ?_
    rotate_left
    · try simp only [Act.put, List.setIfInBounds_toArray, List.set_cons_zero, List.set_cons_succ]
      exact rfl
    refine WQ.gen (v := ?_) (by kernel_rfl) ?_ ?_
    rotate_left
    · intro W hC
      go_simp
      try with_reducible rfl
    refine WQ.eq (a' := ?_) ?_ ?_
    rotate_left
    · try simp only [Act.put, List.setIfInBounds_toArray, List.set_cons_zero, List.set_cons_succ]
      exact rfl
    refine WQ.gen (v := ?_) (by kernel_rfl) ?_ ?_
    rotate_left
    · intro W hC
      go_simp
      try with_reducible rfl
    refine WQ.eq (a' := ?_) ?_ ?_
    rotate_left
    · try simp only [Act.put, List.setIfInBounds_toArray, List.set_cons_zero, List.set_cons_succ]
      exact rfl
    refine WQ.skip (by kernel_rfl) ?_
    refine WQ.eq (a' := ?_) ?_ ?_
    rotate_left
    · try simp only [Act.put, List.setIfInBounds_toArray, List.set_cons_zero, List.set_cons_succ]
      exact rfl
    refine WQ.skip (by kernel_rfl) ?_
    refine WQ.eq (a' := ?_) ?_ ?_
    rotate_left
    · try simp only [Act.put, List.setIfInBounds_toArray, List.set_cons_zero, List.set_cons_succ]
      exact rfl
    refine WQ.skip (by kernel_rfl) ?_
    refine WQ.eq (a' := ?_) ?_ ?_
    rotate_left
    · try simp only [Act.put, List.setIfInBounds_toArray, List.set_cons_zero, List.set_cons_succ]
      exact rfl
    refine WQ.skip (by kernel_rfl) ?_
    refine WQ.eq (a' := ?_) ?_ ?_
    rotate_left
    · try simp only [Act.put, List.setIfInBounds_toArray, List.set_cons_zero, List.set_cons_succ]
      exact rfl
    refine WQ.skip (by kernel_rfl) ?_
    refine WQ.eq (a' := ?_) ?_ ?_
    rotate_left
    · try simp only [Act.put, List.setIfInBounds_toArray, List.set_cons_zero, List.set_cons_succ]
      exact rfl
    refine WQ.skip (by kernel_rfl) ?_
    refine WQ.eq (a' := ?_) ?_ ?_
    rotate_left
    · try simp only [Act.put, List.setIfInBounds_toArray, List.set_cons_zero, List.set_cons_succ]
      exact rfl
    refine WQ.skip (by kernel_rfl) ?_
    refine WQ.eq (a' := ?_) ?_ ?_
    rotate_left
    · try simp only [Act.put, List.setIfInBounds_toArray, List.set_cons_zero, List.set_cons_succ]
      exact rfl
    refine WQ.skip (by kernel_rfl) ?_
    refine WQ.eq (a' := ?_) ?_ ?_
    rotate_left
    · try simp only [Act.put, List.setIfInBounds_toArray, List.set_cons_zero, List.set_cons_succ]
      exact rfl
    refine WQ.gen (v := ?_) (by kernel_rfl) ?_ ?_
    rotate_left
    · intro W hC
      go_simp
      try with_reducible rfl
    refine WQ.eq (a' := ?_) ?_ ?_
    rotate_left
    · try simp only [Act.put, List.setIfInBounds_toArray, List.set_cons_zero, List.set_cons_succ]
      exact rfl
    refine WQ.gen (v := ?_) (by kernel_rfl) ?_ ?_
    rotate_left
    · intro W hC
      go_simp
      try with_reducible rfl
    refine WQ.eq (a' := ?_) ?_ ?_
    rotate_left
    · try simp only [Act.put, List.setIfInBounds_toArray, List.set_cons_zero, List.set_cons_succ]
      exact rfl
    refine WQ.skip (by kernel_rfl) ?_
    refine WQ.eq (a' := ?_) ?_ ?_
    rotate_left
    · try simp only [Act.put, List.setIfInBounds_toArray, List.set_cons_zero, List.set_cons_succ]
      exact rfl
    refine WQ.skip (by kernel_rfl) ?_
    refine WQ.eq (a' := ?_) ?_ ?_
    rotate_left
    · try simp only [Act.put, List.setIfInBounds_toArray, List.set_cons_zero, List.set_cons_succ]
      exact rfl
    refine WQ.skip (by kernel_rfl) ?_
    refine WQ.eq (a' := ?_) ?_ ?_
    rotate_left
    · try simp only [Act.put, List.setIfInBounds_toArray, List.set_cons_zero, List.set_cons_succ]
      exact rfl
    refine WQ.skip (by kernel_rfl) ?_
    refine WQ.eq (a' := ?_) ?_ ?_
    rotate_left
    · try simp only [Act.put, List.setIfInBounds_toArray, List.set_cons_zero, List.set_cons_succ]
      exact rfl
    refine WQ.skip (by kernel_rfl) ?_
    refine WQ.eq (a' := ?_) ?_ ?_
    rotate_left
    · try simp only [Act.put, List.setIfInBounds_toArray, List.set_cons_zero, List.set_cons_succ]
      exact rfl
    refine WQ.skip (by kernel_rfl) ?_
    refine WQ.eq (a' := ?_) ?_ ?_
    rotate_left
    · try simp only [Act.put, List.setIfInBounds_toArray, List.set_cons_zero, List.set_cons_succ]
      exact rfl
    refine WQ.skip (by kernel_rfl) ?_
    refine WQ.eq (a' := ?_) ?_ ?_
    rotate_left
    · try simp only [Act.put, List.setIfInBounds_toArray, List.set_cons_zero, List.set_cons_succ]
      exact rfl
    refine WQ.skip (by kernel_rfl) ?_
    refine WQ.eq (a' := ?_) ?_ ?_
    rotate_left
    · try simp only [Act.put, List.setIfInBounds_toArray, List.set_cons_zero, List.set_cons_succ]
      exact rfl
    refine WQ.gen (v := ?_) (by kernel_rfl) ?_ ?_
    rotate_left
    · intro W hC
      go_simp
      try with_reducible rfl
    refine WQ.eq (a' := ?_) ?_ ?_
    rotate_left
    · try simp only [Act.put, List.setIfInBounds_toArray, List.set_cons_zero, List.set_cons_succ]
      exact rfl
    refine WQ.gen (v := ?_) (by kernel_rfl) ?_ ?_
    rotate_left
    · intro W hC
      go_simp
      try with_reducible rfl
    refine WQ.eq (a' := ?_) ?_ ?_
    rotate_left
    · try simp only [Act.put, List.setIfInBounds_toArray, List.set_cons_zero, List.set_cons_succ]
      exact rfl
    refine WQ.nil ?_
    intro w2 hB2
    have HB2 := Lib.hid hB2
    clear hB2
    go_wp2_with fail
    go_ret
    exact ⟨by rw [HR.out]; rfl, HB2.out⟩
end Go.Proofs.Ytbelofikknfoaaa
