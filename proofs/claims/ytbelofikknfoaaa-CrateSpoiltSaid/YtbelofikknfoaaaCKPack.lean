/- crate.pack, crate.unpack, cavalcaderef08.Way: what the calls do. -/
import Derived.Test.YtbelofikknfoaaaCCrate
import Derived.Test.YtbelofikknfoaaaCWPack
import Derived.Test.YtbelofikknfoaaaCUnpack
import Derived.Test.YtbelofikknfoaaaCUnpack6
import Derived.Test.YtbelofikknfoaaaCUWin
import Derived.Test.YtbelofikknfoaaaCSum
namespace Go.Proofs.Ytbelofikknfoaaa
open Go.RowKit
set_option maxHeartbeats 2000000
set_option maxRecDepth 4000
theorem rpk_size {s : ByteArray} (hs : s.size ≤ 32768) : (bstr (rpk s.data.toList)).size ≤ 65536 := by
  have h := (rpk_len128 _ s.data.toList (Nat.le_refl _)).1
  have hl : s.data.toList.length = s.size := rfl
  rw [bstr_size]
  omega
theorem pack_any (k : Nat) (s : ByteArray) (w : World) (hk : k ≤ 3) (hs : s.size ≤ 32768) :
    Calls Try.prog 19 #[.int .i64 k, .string s] w fun e w' => e = .returned (.string (bstr (wayL k s.data.toList))) ∧ Below w.heap.size w w' := by
  have hr := fun w => rpack_any s w (by omega)
  have hw := fun w => wpack_any s w (by omega)
  have hw3 := fun w => wpack_any (bstr (rpk s.data.toList)) w (rpk_size hs)
  match k, hk with
  | 0, _ =>
    go_enter Try.func19, Try.ntmps19
    go_wp2_with fail
    go_ret
    exact ⟨rfl, Below.refl _ _⟩
  | 1, _ =>
    go_enter Try.func19, Try.ntmps19
    go_wp2_with fail
    refine (hr _).mono ?_
    rintro e w1 ⟨rfl, hb1⟩
    go_wp2_with fail
    go_ret
    exact ⟨rfl, hb1⟩
  | 2, _ =>
    go_enter Try.func19, Try.ntmps19
    go_wp2_with fail
    refine (hw _).mono ?_
    rintro e w1 ⟨rfl, hb1⟩
    go_wp2_with fail
    go_ret
    exact ⟨rfl, hb1⟩
  | 3, _ =>
    go_enter Try.func19, Try.ntmps19
    go_wp2_with fail
    refine (hr _).mono ?_
    rintro e w1 ⟨rfl, hb1⟩
    go_wp2_with fail
    refine (hw3 _).mono ?_
    rintro e w2 ⟨rfl, hb2⟩
    have hb := bw_call hb1 hb2
    go_wp2_with fail
    go_ret
    exact ⟨rfl, hb⟩
theorem way_any (k : Nat) (s : ByteArray) (w : World) (hk : k ≤ 3) (hs : s.size ≤ 32768) :
    Calls Try.prog 17 #[.int .i64 k, .string s] w fun e w' => e = .returned (.string (bstr (wayL k s.data.toList))) ∧ Below w.heap.size w w' := by
  have hr := fun w => rpack6_any s w (by omega)
  have hw := fun w => rwpack7_any s w (by omega)
  have hw3 := fun w => rwpack7_any (bstr (rpk s.data.toList)) w (rpk_size hs)
  match k, hk with
  | 0, _ =>
    go_enter Try.func17, Try.ntmps17
    go_wp2_with fail
    go_ret
    exact ⟨rfl, Below.refl _ _⟩
  | 1, _ =>
    go_enter Try.func17, Try.ntmps17
    go_wp2_with fail
    refine (hr _).mono ?_
    rintro e w1 ⟨rfl, hb1⟩
    go_wp2_with fail
    go_ret
    exact ⟨rfl, hb1⟩
  | 2, _ =>
    go_enter Try.func17, Try.ntmps17
    go_wp2_with fail
    refine (hw _).mono ?_
    rintro e w1 ⟨rfl, hb1⟩
    go_wp2_with fail
    go_ret
    exact ⟨rfl, hb1⟩
  | 3, _ =>
    go_enter Try.func17, Try.ntmps17
    go_wp2_with fail
    refine (hr _).mono ?_
    rintro e w1 ⟨rfl, hb1⟩
    go_wp2_with fail
    refine (hw3 _).mono ?_
    rintro e w2 ⟨rfl, hb2⟩
    have hb := bw_call hb1 hb2
    go_wp2_with fail
    go_ret
    exact ⟨rfl, hb⟩
theorem unW_nat (s : ByteArray) (m : Nat) : unW s (m : Int) = unV (uwin8 s.data.toList m) := by
  rw [unW, if_neg (by omega), Int.toNat_natCast]
  rfl
theorem unR_nat (s : ByteArray) (m : Nat) : unR s (m : Int) = unV (urun s.data.toList [] m) := by
  rw [unR, if_neg (by omega), Int.toNat_natCast]
theorem unpack8_any (k : Nat) (s : ByteArray) (m : Nat) (w : World) (hk : k ≤ 3) (hs : s.size ≤ 140737488351232) (hm : m ≤ 32768) :
    Calls Try.prog 22 #[.int .i64 k, .string s, .int .i64 m] w fun e w' => e = .returned (unV (unpL k s.data.toList m)) ∧ Below w.heap.size w w' := by
  have hr := fun w => unpack_any s m w hs (by omega)
  have hw := fun w => wunpack_any s m w hs (by omega)
  have hw3 := fun w => wunpack_any s (33068 : Nat) w hs (by omega)
  rw [unR_nat] at hr
  rw [unW_nat] at hw hw3
  match k, hk with
  | 0, _ =>
    go_enter Try.func22, Try.ntmps22
    go_wp2_with fail
    go_ret2
    exact ⟨rfl, Below.refl _ _⟩
  | 1, _ =>
    have hu : unpL 1 s.data.toList m = urun s.data.toList [] m := rfl
    rw [hu]
    cases hx : urun s.data.toList [] m with
    | error e =>
      rw [hx] at hr
      go_enter Try.func22, Try.ntmps22
      go_wp2_with fail
      refine (hr _).mono ?_
      rintro e w1 ⟨rfl, hb1⟩
      simp only [unV]
      go_wp2_with fail
      go_ret2
      exact ⟨rfl, hb1⟩
    | ok t =>
      rw [hx] at hr
      go_enter Try.func22, Try.ntmps22
      go_wp2_with fail
      refine (hr _).mono ?_
      rintro e w1 ⟨rfl, hb1⟩
      simp only [unV]
      go_wp2_with fail
      go_ret2
      exact ⟨rfl, hb1⟩
  | 2, _ =>
    have hu : unpL 2 s.data.toList m = uwin8 s.data.toList m := rfl
    rw [hu]
    cases hx : uwin8 s.data.toList m with
    | error e =>
      rw [hx] at hw
      go_enter Try.func22, Try.ntmps22
      go_wp2_with fail
      refine (hw _).mono ?_
      rintro e w1 ⟨rfl, hb1⟩
      simp only [unV]
      go_wp2_with fail
      go_ret2
      exact ⟨rfl, hb1⟩
    | ok t =>
      rw [hx] at hw
      go_enter Try.func22, Try.ntmps22
      go_wp2_with fail
      refine (hw _).mono ?_
      rintro e w1 ⟨rfl, hb1⟩
      simp only [unV]
      go_wp2_with fail
      go_ret2
      exact ⟨rfl, hb1⟩
  | 3, _ =>
    cases hx : uwin8 s.data.toList 33068 with
    | error e =>
      have hu : unpL 3 s.data.toList m = .error e := by simp only [unpL, hx]
      have he : (e != 0) = true := by
        rcases uwin8_err hx with rfl | rfl | rfl <;> decide
      rw [hu]
      rw [hx] at hw3
      go_enter Try.func22, Try.ntmps22
      go_wp2_with fail
      refine (hw3 _).mono ?_
      rintro e w1 ⟨rfl, hb1⟩
      simp only [unV]
      go_wp2_with fail
      go_ret2
      exact ⟨rfl, hb1⟩
    | ok t =>
      have hu : unpL 3 s.data.toList m = urun t [] m := by simp only [unpL, hx]
      have hr3 := fun w => unpack_any (bstr t) m w (by have := uwin8_len hx; rw [bstr_size]; omega) (by omega)
      rw [unR_nat, bstr_toList] at hr3
      rw [hu]
      rw [hx] at hw3
      cases hy : urun t [] m with
      | error e =>
        rw [hy] at hr3
        go_enter Try.func22, Try.ntmps22
        go_wp2_with fail
        refine (hw3 _).mono ?_
        rintro e w1 ⟨rfl, hb1⟩
        simp only [unV]
        go_wp2_with fail
        refine (hr3 _).mono ?_
        rintro e w2 ⟨rfl, hb2⟩
        have hb := bw_call hb1 hb2
        simp only [unV]
        go_wp2_with fail
        go_ret2
        exact ⟨rfl, hb⟩
      | ok z =>
        rw [hy] at hr3
        go_enter Try.func22, Try.ntmps22
        go_wp2_with fail
        refine (hw3 _).mono ?_
        rintro e w1 ⟨rfl, hb1⟩
        simp only [unV]
        go_wp2_with fail
        refine (hr3 _).mono ?_
        rintro e w2 ⟨rfl, hb2⟩
        have hb := bw_call hb1 hb2
        simp only [unV]
        go_wp2_with fail
        go_ret2
        exact ⟨rfl, hb⟩
end Go.Proofs.Ytbelofikknfoaaa
