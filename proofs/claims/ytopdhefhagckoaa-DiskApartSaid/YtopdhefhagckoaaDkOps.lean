/- disk: Down, wrong, find, done, Read, Safe, Sync, Arm, nil or not: what the calls do. -/
import Derived.Test.YtopdhefhagckoaaDWord
namespace Go.Proofs.Ytopdhefhagckoaa
open Go.RowKit
set_option maxHeartbeats 2000000
set_option maxRecDepth 4000
section
variable {N : Nat} {w W : World} {bd bm : Nat} {pl : List FB} {left : Option Nat}
theorem DkAt.c0 (h : DkAt N w W bd bm pl left) : W.cell? ⟨bd, 0, none⟩ = some (.map (some bm)) := by
  obtain ⟨z, _, hd⟩ := h.d
  rw [cell_of_row W bd 0 _ _ _ hd]; rfl
theorem DkAt.c1 (h : DkAt N w W bd bm pl left) : W.cell? ⟨bd, 1, none⟩ = some (.bool left.isSome) := by
  obtain ⟨z, _, hd⟩ := h.d
  rw [cell_of_row W bd 1 _ _ _ hd]; rfl
theorem DkAt.c2 (h : DkAt N w W bd bm pl left) : ∃ z : Int, (∀ k, left = some k → z = k ∧ k ≤ 9223372036854775807) ∧ W.cell? ⟨bd, 2, none⟩ = some (.int .i64 z) := by
  obtain ⟨z, hz, hd⟩ := h.d
  exact ⟨z, hz, by rw [cell_of_row W bd 2 _ _ _ hd]; rfl⟩
theorem DkAt.fb (h : DkAt N w W bd bm pl left) {p : FB} (hp : p ∈ pl) : W.cell? ⟨p.2, 0, none⟩ = some (.string p.1.b) := by
  rw [cell_of_row W p.2 0 _ _ _ (h.f p hp)]; rfl
theorem DkAt.fs (h : DkAt N w W bd bm pl left) {p : FB} (hp : p ∈ pl) : W.cell? ⟨p.2, 1, none⟩ = some (.int .i64 (p.1.safe : Int)) := by
  rw [cell_of_row W p.2 1 _ _ _ (h.f p hp)]; rfl
end
theorem down_any {N : Nat} {w : World} {bd bm : Nat} {pl : List FB} {left : Option Nat} (W : World) (h : DkAt N w W bd bm pl left) :
    Calls Try.prog 11 #[.pointer (some ⟨bd, 0, none⟩)] W fun e w' => e = .returned (.bool (stOf pl left).down) ∧ w' = W := by
  have k1 := h.c1
  obtain ⟨z, hz, k2⟩ := h.c2
  cases left with
  | none =>
    have k1' : W.cell? ⟨bd, 1, none⟩ = some (.bool false) := k1
    clear k1 h hz
    go_enter Try.func11, Try.ntmps11
    go_wp2_with fail
    go_ret
    exact ⟨rfl, rfl⟩
  | some k =>
    obtain ⟨rfl, _⟩ := hz k rfl
    have k1' : W.cell? ⟨bd, 1, none⟩ = some (.bool true) := k1
    obtain ⟨r, hr⟩ : ∃ r, r = (stOf pl (some k)).down := ⟨_, rfl⟩
    have hd : decide (k = 0) = r := by
      rw [hr]
      show _ = decide (some k = some 0)
      apply decide_eq_decide.2
      rw [Option.some.injEq]
    rw [← hr]
    clear k1 h hz hr
    go_enter Try.func11, Try.ntmps11
    go_wp2_with fail
    go_ret
    exact ⟨rfl, rfl⟩
theorem down_nil (W : World) :
    Calls Try.prog 11 #[.pointer none] W fun e w' => e = .returned (.bool false) ∧ w' = W := by
  go_enter Try.func11, Try.ntmps11
  go_wp2_with fail
  go_ret
  exact ⟨rfl, rfl⟩
theorem wrong_any {N : Nat} {w : World} {bd bm : Nat} {pl : List FB} {left : Option Nat} (W : World) (h : DkAt N w W bd bm pl left) :
    Calls Try.prog 26 #[.pointer (some ⟨bd, 0, none⟩)] W fun e w' => e = .returned (.int .i64 (if (stOf pl left).down = true then 8 else 0)) ∧ w' = W := by
  cases hr : (stOf pl left).down
  · have HC := Lib.hid (down_any W h)
    rw [hr] at HC
    clear hr h
    go_enter Try.func26, Try.ntmps26
    go_wp2_with fail
    refine HC.out.mono ?_
    rintro e w1 ⟨rfl, rfl⟩
    go_wp2_with fail
    go_ret
    exact ⟨rfl, rfl⟩
  · have HC := Lib.hid (down_any W h)
    rw [hr] at HC
    clear hr h
    go_enter Try.func26, Try.ntmps26
    go_wp2_with fail
    refine HC.out.mono ?_
    rintro e w1 ⟨rfl, rfl⟩
    go_wp2_with fail
    go_ret
    exact ⟨rfl, rfl⟩
theorem wrong_nil (W : World) :
    Calls Try.prog 26 #[.pointer none] W fun e w' => e = .returned (.int .i64 1) ∧ w' = W := by
  go_enter Try.func26, Try.ntmps26
  go_wp2_with fail
  go_ret
  exact ⟨rfl, rfl⟩
/-- what find tells -/
def fnd (pl : List FB) (left : Option Nat) (nm : List UInt8) : Option FB × Int :=
  if (stOf pl left).down = true then (none, 8) else match findN fnm nm pl with | some p => (some p, 0) | none => (none, 34)
theorem find_any {N : Nat} {w : World} {bd bm : Nat} {pl : List FB} {left : Option Nat} (W : World) (h : DkAt N w W bd bm pl left) (s : ByteArray) (hs : s.size ≤ 140737488355328) :
    Calls Try.prog 29 #[.pointer (some ⟨bd, 0, none⟩), .string s] W fun e w' => e = .returned (.tuple #[fptr (fnd pl left s.data.toList).1, .int .i64 (fnd pl left s.data.toList).2]) ∧ w' = W := by
  have HC := Lib.hid (wrong_any W h)
  have hlk := h.look hs
  have k0 := h.c0
  unfold fnd
  cases hr : (stOf pl left).down
  · rw [hr] at HC
    cases hf : findN fnm s.data.toList pl with
    | none =>
      rw [hf] at hlk
      have hlk' : (Instr.lookup 51 (.map (some bm)) (.string s) false).run Try.prog W = .ok (.pointer none) W := hlk
      clear hlk hr hf h
      go_enter Try.func29, Try.ntmps29
      go_wp2_with fail
      refine HC.out.mono ?_
      rintro e w1 ⟨rfl, rfl⟩
      go_wp2_with fail
      go_ret2
      exact ⟨rfl, rfl⟩
    | some p =>
      rw [hf] at hlk
      have hlk' : (Instr.lookup 51 (.map (some bm)) (.string s) false).run Try.prog W = .ok (.pointer (some ⟨p.2, 0, none⟩)) W := hlk
      clear hlk hr hf h
      go_enter Try.func29, Try.ntmps29
      go_wp2_with fail
      refine HC.out.mono ?_
      rintro e w1 ⟨rfl, rfl⟩
      go_wp2_with fail
      go_ret2
      exact ⟨rfl, rfl⟩
  · rw [hr] at HC
    clear hlk hr h
    go_enter Try.func29, Try.ntmps29
    go_wp2_with fail
    refine HC.out.mono ?_
    rintro e w1 ⟨rfl, rfl⟩
    go_wp2_with fail
    go_ret2
    exact ⟨rfl, rfl⟩
theorem find_nil (W : World) (s : ByteArray) :
    Calls Try.prog 29 #[.pointer none, .string s] W fun e w' => e = .returned (.tuple #[.pointer none, .int .i64 1]) ∧ w' = W := by
  go_enter Try.func29, Try.ntmps29
  go_wp2_with fail
  refine (wrong_nil _).mono ?_
  rintro e w1 ⟨rfl, rfl⟩
  go_wp2_with fail
  go_ret2
  exact ⟨rfl, rfl⟩
/-- what Read, what Safe tells of a file that find found -/
theorem fnd_look (pl : List FB) (left : Option Nat) (nm : List UInt8) : (stOf pl left).look nm = match (fnd pl left nm).1 with | some p => (p.1.b, p.1.safe, (fnd pl left nm).2) | none => (ByteArray.empty, 0, (fnd pl left nm).2) := by
  unfold DS.look fnd
  split
  · rfl
  · rw [find_st]
    cases findN fnm nm pl <;> rfl
theorem fnd_mem {pl : List FB} {left : Option Nat} {nm : List UInt8} {p : FB} {k : Int} (h : fnd pl left nm = (some p, k)) : p ∈ pl ∧ k = 0 ∧ p.1.nm = nm ∧ (stOf pl left).down = false ∧ findN fnm nm pl = some p := by
  unfold fnd at h
  split at h
  · cases h
  · rename_i hd
    cases hf : findN fnm nm pl with
    | none => rw [hf] at h; cases h
    | some q =>
      rw [hf] at h
      cases h
      have := findN_some hf
      exact ⟨this.1, rfl, this.2, by simpa using hd, rfl⟩
theorem fnd_none {pl : List FB} {left : Option Nat} {nm : List UInt8} {k : Int} (h : fnd pl left nm = (none, k)) : k ≠ 0 := by
  unfold fnd at h
  split at h
  · cases h; decide
  · cases hf : findN fnm nm pl with
    | none => rw [hf] at h; cases h; decide
    | some q => rw [hf] at h; cases h
theorem read_any {N : Nat} {w : World} {bd bm : Nat} {pl : List FB} {left : Option Nat} (W : World) (h : DkAt N w W bd bm pl left) (s : ByteArray) (hs : s.size ≤ 140737488355328) :
    Calls Try.prog 18 #[.pointer (some ⟨bd, 0, none⟩), .string s] W fun e w' => e = .returned (.tuple #[.string ((stOf pl left).look s.data.toList).1, .int .i64 ((stOf pl left).look s.data.toList).2.2]) ∧ w' = W := by
  have HC := Lib.hid (find_any W h s hs)
  rw [fnd_look]
  cases hr : fnd pl left s.data.toList with
  | mk o k =>
    rw [hr] at HC
    cases o with
    | none =>
      have hk : (k == 0) = false := by rw [beq_eq_false_iff_ne]; exact fnd_none hr
      clear hr h
      go_enter Try.func18, Try.ntmps18
      go_wp2_with fail
      refine HC.out.mono ?_
      rintro e w1 ⟨rfl, rfl⟩
      go_wp2_with fail
      go_ret2
      exact ⟨rfl, rfl⟩
    | some p =>
      obtain ⟨hp, rfl, hn, hd, hf⟩ := fnd_mem hr
      have kb := h.fb hp
      have HC' : Hid (Calls Try.prog 29 #[.pointer (some ⟨bd, 0, none⟩), .string s] W fun e w' => e = .returned (.tuple #[.pointer (some ⟨p.2, 0, none⟩), .int .i64 0]) ∧ w' = W) := HC
      clear hr h HC hn hd hf
      go_enter Try.func18, Try.ntmps18
      go_wp2_with fail
      refine HC'.out.mono ?_
      rintro e w1 ⟨rfl, rfl⟩
      go_wp2_with fail
      go_ret2
      exact ⟨rfl, rfl⟩
theorem safe_any {N : Nat} {w : World} {bd bm : Nat} {pl : List FB} {left : Option Nat} (W : World) (h : DkAt N w W bd bm pl left) (s : ByteArray) (hs : s.size ≤ 140737488355328) :
    Calls Try.prog 19 #[.pointer (some ⟨bd, 0, none⟩), .string s] W fun e w' => e = .returned (.tuple #[.int .i64 (((stOf pl left).look s.data.toList).2.1 : Nat), .int .i64 ((stOf pl left).look s.data.toList).2.2]) ∧ w' = W := by
  have HC := Lib.hid (find_any W h s hs)
  rw [fnd_look]
  cases hr : fnd pl left s.data.toList with
  | mk o k =>
    rw [hr] at HC
    cases o with
    | none =>
      have hk : (k == 0) = false := by rw [beq_eq_false_iff_ne]; exact fnd_none hr
      clear hr h
      go_enter Try.func19, Try.ntmps19
      go_wp2_with fail
      refine HC.out.mono ?_
      rintro e w1 ⟨rfl, rfl⟩
      go_wp2_with fail
      go_ret2
      exact ⟨rfl, rfl⟩
    | some p =>
      obtain ⟨hp, rfl, hn, hd, hf⟩ := fnd_mem hr
      have kb := h.fs hp
      have HC' : Hid (Calls Try.prog 29 #[.pointer (some ⟨bd, 0, none⟩), .string s] W fun e w' => e = .returned (.tuple #[.pointer (some ⟨p.2, 0, none⟩), .int .i64 0]) ∧ w' = W) := HC
      clear hr h HC hn hd hf
      go_enter Try.func19, Try.ntmps19
      go_wp2_with fail
      refine HC'.out.mono ?_
      rintro e w1 ⟨rfl, rfl⟩
      go_wp2_with fail
      go_ret2
      exact ⟨rfl, rfl⟩
end Go.Proofs.Ytopdhefhagckoaa
