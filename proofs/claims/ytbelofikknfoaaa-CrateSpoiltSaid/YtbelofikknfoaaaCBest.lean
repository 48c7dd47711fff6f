/- cavalcaderef07.best, Static: what the calls do. -/
import Derived.Test.YtbelofikknfoaaaCMatch
import Derived.Deep.CutBlock
import Derived.Deep.DeepCutAuto
namespace Go.Proofs.Ytbelofikknfoaaa
open Go.RowKit
set_option maxHeartbeats 1000000
set_option maxRecDepth 4000
/-- the longest match of a place with what stands at most d back, and how far back -/
def bstD (s : ByteArray) (a : Nat) : Nat → Nat × Nat
  | 0 => (0, 0)
  | d + 1 => if (bstD s a d).1 < mch s a (a - (d + 1)) then (mch s a (a - (d + 1)), d + 1) else bstD s a d
def bst (s : ByteArray) (a : Nat) : Nat × Nat := bstD s a (min a 32768)
theorem bstD_le {s : ByteArray} {a : Nat} (ha : a ≤ s.size) : ∀ d, (bstD s a d).1 ≤ 130 ∧ a + (bstD s a d).1 ≤ s.size ∧ (bstD s a d).2 ≤ d ∧ (0 < (bstD s a d).1 → 1 ≤ (bstD s a d).2)
  | 0 => by simp [bstD]; exact ha
  | d + 1 => by
    have h := bstD_le ha d
    have h2 := mch_le ha (a - (d + 1))
    unfold bstD
    split
    · simp only; omega
    · omega
theorem best_any (s : ByteArray) (a : Nat) (w : World) (hs : s.size ≤ 140737488355328) (ha : a ≤ s.size) :
    Calls Try.prog 35 #[.string s, .int .i64 a] w fun e w' => e = .returned (.tuple #[.int .i64 (bst s a).1, .int .i64 (bst s a).2]) ∧ Below w.heap.size w w' := by
  obtain ⟨R, hR⟩ : ∃ R, R = bst s a := ⟨_, rfl⟩
  rw [← hR]
  have HR := Lib.hid hR
  have H0 : Hid (bstD s a 0 = (0, 0)) := show _ = _ from rfl
  clear hR
  go_enter Try.func35, Try.ntmps35
  go_wp2_with fail
  go_loopg [6, 7, 8] a (fun gk i b j wr => ∃ n bk d : Nat, d + gk = a ∧ d ≤ 32768 ∧ n ≤ 130 ∧ i = .int .i64 n ∧ b = .int .i64 bk ∧ j = .int .i64 (d + 1 : Nat) ∧ Hid (bstD s a d = (n, bk)) ∧ Hid (Below w.heap.size w wr))
  case atStart => exact ⟨0, 0, 0, by omega, by omega, by omega, rfl, rfl, rfl, H0, Below.refl _ _⟩
  case round =>
    obtain ⟨n, bk, d, hn, hd, hnn, rfl, rfl, rfl, HD, HB⟩ := hrel
    obtain ⟨k, hk⟩ : ∃ k, k = d + 1 := ⟨_, rfl⟩
    rw [← hk]
    have e1 : IntKind.i64.wrap ((k : Int) + 1) = ((k + 1 : Nat) : Int) := by rw [IntWalk.i64_in _ (by omega)]; omega
    by_cases hka : k ≤ a
    · have d0 : decide ((k : Int) ≤ a) = true := decide_eq_true (by omega)
      by_cases hk2 : k ≤ 32768
      · have d1 : decide ((k : Int) ≤ 32768) = true := decide_eq_true (by omega)
        obtain ⟨m, hm⟩ : ∃ m, m = mch s a (a - k) := ⟨_, rfl⟩
        have hm1 : m ≤ 130 := by rw [hm]; exact (mch_le ha _).1
        have HM := Lib.hid hm
        have hk1 : 1 ≤ k := by omega
        have HK2 : Hid (k ≤ 32768) := show k ≤ 32768 from hk2
        have HK3 : Hid (k = d + 1) := show _ = _ from hk
        clear hk2 hd
        by_cases hlt : n < m
        · have d2 : decide ((n : Int) < m) = true := decide_eq_true (by omega)
          have HN : Hid (bstD s a k = (m, k)) := show _ = _ from by
            subst hk
            have hD := HD.out
            unfold bstD
            rw [hD, ← hm, if_pos hlt]
          clear hm hk
          go_wp2_with fail
          refine (match_any s a k _ hs ha hk1 hka).mono ?_
          rintro e w1 ⟨rfl, hb⟩
          have HB1 := Lib.hid (bw_call HB.out hb)
          clear hb
          rw [← HM.out]
          go_wp2_with fail
          go_roundg (gk - 1)
          case measure => have := HK3.out; omega
          case rel => exact ⟨m, k, k, by have := HK3.out; omega, HK2.out, by omega, rfl, rfl, by go_num, HN, HB1⟩
        · have d2 : decide ((n : Int) < m) = false := decide_eq_false (by omega)
          have HN : Hid (bstD s a k = (n, bk)) := show _ = _ from by
            subst hk
            have hD := HD.out
            unfold bstD
            rw [hD, ← hm, if_neg hlt]
          clear hm hk
          go_wp2_with fail
          refine (match_any s a k _ hs ha hk1 hka).mono ?_
          rintro e w1 ⟨rfl, hb⟩
          have HB1 := Lib.hid (bw_call HB.out hb)
          clear hb
          rw [← HM.out]
          go_wp2_with fail
          go_roundg (gk - 1)
          case measure => have := HK3.out; omega
          case rel => exact ⟨n, bk, k, by have := HK3.out; omega, HK2.out, by omega, rfl, rfl, by go_num, HN, HB1⟩
      · have d1 : decide ((k : Int) ≤ 32768) = false := decide_eq_false (by omega)
        have HN : Hid (R = (n, bk)) := show _ = _ from by
          rw [HR.out, ← HD.out, bst]
          congr 1
          omega
        clear hk
        go_wp2_with fail
        go_ret2
        exact ⟨by rw [HN.out]; rfl, HB.out⟩
    · have d0 : decide ((k : Int) ≤ a) = false := decide_eq_false (by omega)
      have HN : Hid (R = (n, bk)) := show _ = _ from by
        rw [HR.out, ← HD.out, bst]
        congr 1
        omega
      clear hk
      go_wp2_with fail
      go_ret2
      exact ⟨by rw [HN.out]; rfl, HB.out⟩
/-- the static text -/
def statL : List UInt8 := [116, 114, 97, 110, 115, 102, 101, 114, 32, 112, 97, 121, 32, 116, 111, 32, 102, 114, 111, 109, 32, 108, 97, 110, 101, 32, 98, 105, 100, 32, 102, 101, 101, 32, 110, 111, 110, 99, 101, 32, 114, 111, 117, 110, 100, 32, 98, 97, 116, 99, 104, 32, 100, 101, 108, 97, 121, 101, 100, 32, 48, 49, 50, 51, 52, 53, 54, 55]
theorem statL_length : statL.length = 68 := rfl
theorem static_any (w : World) :
    Calls Try.prog 33 #[] w fun e w' => e = .returned (.string (bstr statL)) ∧ Below w.heap.size w w' := by
  go_enter Try.func33, Try.ntmps33
  go_wp2_with fail
  go_ret
  exact ⟨rfl, Below.refl _ _⟩
end Go.Proofs.Ytbelofikknfoaaa
