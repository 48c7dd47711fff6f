/- disk's isWord: what the call does. -/
import Derived.Test.YtopdhefhagckoaaDkAt
import Derived.Deep.LoopGhost
import Derived.Deep.QuietTactic
import Derived.BigQuiet
import Derived.WalkMore
namespace Go.Proofs.Ytopdhefhagckoaa
open Go.RowKit
set_option maxHeartbeats 2000000
set_option maxRecDepth 4000
theorem letter_byte (c : UInt8) : letter c = ((decide (97 ≤ (c.toNat : Int)) && decide ((c.toNat : Int) ≤ 122)) || (decide (48 ≤ (c.toNat : Int)) && decide ((c.toNat : Int) ≤ 57)) || decide ((c.toNat : Int) = 46)) := by
  unfold letter
  congr 1
  · congr 1
    · congr 1 <;> (apply decide_eq_decide.2; omega)
    · congr 1 <;> (apply decide_eq_decide.2; omega)
  · apply decide_eq_decide.2; omega
theorem word_no {s : ByteArray} {i : Nat} (hi : i < s.size) (h : letter (s[i]'hi) = false) : isWord s.data.toList = false := by
  have hm : (s[i]'hi) ∈ s.data.toList := by
    show s.data[i] ∈ _
    exact Array.mem_toList_iff.2 (Array.getElem_mem _)
  unfold isWord
  rw [Bool.and_eq_false_iff]
  right
  rw [List.all_eq_false]
  exact ⟨_, hm, by rw [h]; exact Bool.false_ne_true⟩
theorem word_yes {s : ByteArray} (h1 : 1 ≤ s.size) (h2 : s.size ≤ 16) (h : ∀ (i : Nat) (hi : i < s.size), letter (s[i]'hi) = true) : isWord s.data.toList = true := by
  have hl : s.data.toList.length = s.size := by simp
  unfold isWord
  rw [hl, decide_eq_true h1, decide_eq_true h2, Bool.true_and, Bool.true_and, List.all_eq_true]
  intro x hx
  obtain ⟨i, hi, rfl⟩ := List.mem_iff_getElem.1 hx
  exact h i (by rw [← hl]; exact hi)
theorem word_size {s : ByteArray} (h : s.size = 0 ∨ 16 < s.size) : isWord s.data.toList = false := by
  have hl : s.data.toList.length = s.size := by simp
  unfold isWord
  rw [hl]
  rcases h with h | h
  · rw [decide_eq_false (by omega : ¬ 1 ≤ s.size)]; rfl
  · rw [decide_eq_false (by omega : ¬ s.size ≤ 16), Bool.and_false]; rfl
theorem not_empty {s : ByteArray} (h : ¬ s.size = 0) : s.toList.isEmpty = false := by
  rw [ByteArray.toList_eq, List.isEmpty_eq_false_iff]
  intro e
  have hl : s.data.toList.length = s.size := by simp
  rw [e] at hl
  exact h hl.symm
theorem word_any (s : ByteArray) (w : World) :
    Calls Try.prog 27 #[.string s] w fun e w' => e = .returned (.bool (isWord s.data.toList)) ∧ w' = w := by
  by_cases h0 : s.size = 0 ∨ 16 < s.size
  · have hw := word_size h0
    obtain ⟨r, hr⟩ : ∃ r, r = isWord s.data.toList := ⟨_, rfl⟩
    rw [← hr] at hw ⊢
    subst hw
    clear hr
    by_cases hz : s.size = 0
    · have he : s = ByteArray.empty := ByteArray.ext (Array.eq_empty_of_size_eq_zero hz)
      subst he
      clear h0 hz
      go_enter Try.func27, Try.ntmps27
      go_wp2_with fail
      go_ret
      exact ⟨rfl, rfl⟩
    · have hb := not_empty hz
      have hd : decide (16 < (s.size : Int)) = true := decide_eq_true (by omega)
      clear h0 hz
      go_enter Try.func27, Try.ntmps27
      go_wp2_with fail
      go_ret
      exact ⟨rfl, rfl⟩
  · have hb := not_empty (fun h => h0 (.inl h))
    have hd : decide (16 < (s.size : Int)) = false := decide_eq_false (by omega)
    have hs1 : 1 ≤ s.size := by omega
    have hs2 : s.size ≤ 16 := by omega
    obtain ⟨r, hr⟩ : ∃ r, r = isWord s.data.toList := ⟨_, rfl⟩
    rw [← hr]
    have HR := Lib.hid hr
    clear h0 hr
    go_enter Try.func27, Try.ntmps27
    go_wp2_with fail
    go_loopg [14] s.size (fun gk i_ wr => ∃ a : Nat, a + gk = s.size ∧ i_ = .int .i64 a ∧ Hid (∀ (i : Nat) (hi : i < s.size), i < a → letter (s[i]'hi) = true) ∧ wr = w)
    case atStart => exact ⟨0, by omega, rfl, (show ∀ (i : Nat) (hi : i < s.size), i < 0 → _ from fun i _ h => absurd h (Nat.not_lt_zero i)), rfl⟩
    case round =>
      obtain ⟨a, hag, rfl, HL, rfl⟩ := hrel
      generalize gk = go at *
      by_cases hlt : a < s.size
      · have f0 : (0 : Int) ≤ a := by omega
        have f1 : (a : Int) < s.size := by omega
        have e1 : IntKind.i64.wrap ((a : Int) + 1) = ((a + 1 : Nat) : Int) := by rw [IntWalk.i64_in _ (by omega)]; omega
        have hcb := UInt8.toNat_lt (s[a]'hlt)
        by_cases b1 : 97 ≤ (s[a]'hlt).toNat
        · have d1 : decide (97 ≤ ((s[a]'hlt).toNat : Int)) = true := decide_eq_true (by omega)
          by_cases b2 : (s[a]'hlt).toNat ≤ 122
          · have d2 : decide (((s[a]'hlt).toNat : Int) ≤ 122) = true := decide_eq_true (by omega)
            have HY : Hid (letter (s[a]'hlt) = true) := show _ = _ from by rw [letter_byte, d1, d2]; rfl
            go_wp2_with fail
            go_roundg (go - 1)
            case measure => omega
            case rel => exact ⟨a + 1, by omega, by go_num, show ∀ i, _ from fun i hi h => (Nat.lt_succ_iff_lt_or_eq.1 h).elim (HL.out i hi) (fun h => by subst h; exact HY.out), rfl⟩
          · have d2 : decide (((s[a]'hlt).toNat : Int) ≤ 122) = false := decide_eq_false (by omega)
            have d3 : decide (48 ≤ ((s[a]'hlt).toNat : Int)) = true := decide_eq_true (by omega)
            have d4 : decide (((s[a]'hlt).toNat : Int) ≤ 57) = false := decide_eq_false (by omega)
            have d5 : (((s[a]'hlt).toNat : Int) == 46) = false := by rw [beq_eq_false_iff_ne]; omega
            have d5' : decide (((s[a]'hlt).toNat : Int) = 46) = false := decide_eq_false (by omega)
            have HF : Hid (r = false) := show _ = _ from by rw [HR.out]; exact word_no hlt (by rw [letter_byte, d1, d2, d3, d4, d5']; rfl)
            go_wp2_with fail
            go_ret
            exact ⟨(by rw [HF.out]; first | done | rfl), rfl⟩
        · have d1 : decide (97 ≤ ((s[a]'hlt).toNat : Int)) = false := decide_eq_false (by omega)
          by_cases b3 : 48 ≤ (s[a]'hlt).toNat
          · have d3 : decide (48 ≤ ((s[a]'hlt).toNat : Int)) = true := decide_eq_true (by omega)
            by_cases b4 : (s[a]'hlt).toNat ≤ 57
            · have d4 : decide (((s[a]'hlt).toNat : Int) ≤ 57) = true := decide_eq_true (by omega)
              have HY : Hid (letter (s[a]'hlt) = true) := show _ = _ from by rw [letter_byte, d1, d3, d4]; rfl
              go_wp2_with fail
              go_roundg (go - 1)
              case measure => omega
              case rel => exact ⟨a + 1, by omega, by go_num, show ∀ i, _ from fun i hi h => (Nat.lt_succ_iff_lt_or_eq.1 h).elim (HL.out i hi) (fun h => by subst h; exact HY.out), rfl⟩
            · have d4 : decide (((s[a]'hlt).toNat : Int) ≤ 57) = false := decide_eq_false (by omega)
              have d5 : (((s[a]'hlt).toNat : Int) == 46) = false := by rw [beq_eq_false_iff_ne]; omega
              have d5' : decide (((s[a]'hlt).toNat : Int) = 46) = false := decide_eq_false (by omega)
              have HF : Hid (r = false) := show _ = _ from by rw [HR.out]; exact word_no hlt (by rw [letter_byte, d1, d3, d4, d5']; rfl)
              go_wp2_with fail
              go_ret
              exact ⟨(by rw [HF.out]; first | done | rfl), rfl⟩
          · have d3 : decide (48 ≤ ((s[a]'hlt).toNat : Int)) = false := decide_eq_false (by omega)
            by_cases b5 : (s[a]'hlt).toNat = 46
            · have d5 : (((s[a]'hlt).toNat : Int) == 46) = true := by rw [beq_iff_eq]; omega
              have d5' : decide (((s[a]'hlt).toNat : Int) = 46) = true := decide_eq_true (by omega)
              have HY : Hid (letter (s[a]'hlt) = true) := show _ = _ from by rw [letter_byte, d1, d3, d5']; rfl
              go_wp2_with fail
              go_roundg (go - 1)
              case measure => omega
              case rel => exact ⟨a + 1, by omega, by go_num, show ∀ i, _ from fun i hi h => (Nat.lt_succ_iff_lt_or_eq.1 h).elim (HL.out i hi) (fun h => by subst h; exact HY.out), rfl⟩
            · have d5 : (((s[a]'hlt).toNat : Int) == 46) = false := by rw [beq_eq_false_iff_ne]; omega
              have d5' : decide (((s[a]'hlt).toNat : Int) = 46) = false := decide_eq_false (by omega)
              have HF : Hid (r = false) := show _ = _ from by rw [HR.out]; exact word_no hlt (by rw [letter_byte, d1, d3, d5']; rfl)
              go_wp2_with fail
              go_ret
              exact ⟨(by rw [HF.out]; first | done | rfl), rfl⟩
      · have d0 : decide ((a : Int) < s.size) = false := decide_eq_false (by omega)
        have HY : Hid (r = true) := show _ = _ from by rw [HR.out]; exact word_yes hs1 hs2 fun i hi => HL.out i hi (by omega)
        go_wp2_with fail
        go_ret
        exact ⟨(by rw [HY.out]; first | done | rfl), rfl⟩
end Go.Proofs.Ytopdhefhagckoaa
