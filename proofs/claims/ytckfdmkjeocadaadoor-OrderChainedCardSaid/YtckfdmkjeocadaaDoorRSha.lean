/- The reference's rotations, its words, its padding, a hash's bytes: what the calls do. -/
import Derived.Test.YtckfdmkjeocadaaDoorRNum
import Derived.Test.YtckfdmkjeocadaaDoorRShaPure
namespace Go.Proofs.YtckfdmkjeocadaaDoor
open Go.RowKit
theorem bits_or_flip (x y : Int) : bits .or .u32 x y = bits .or .u32 y x := by simp only [bits, BitVec.or_comm]
theorem right_val {x : Int} {n : Nat} (h0 : 0 ≤ x) (h1 : x ≤ 4294967295) (hn : 1 ≤ n) (hn2 : n ≤ 31) : IntKind.u32.wrap (x / 2 ^ n + x * 2 ^ (32 - n) % 4294967296) = rot x n := by
  have h32 : (4294967296 : Int) = 2 ^ n * 2 ^ (32 - n) := by
    rw [← Int.pow_add, show n + (32 - n) = 32 by omega]
    rfl
  have hp : (0 : Int) < 2 ^ n := Int.pow_pos (by decide)
  have hq : (0 : Int) < 2 ^ (32 - n) := Int.pow_pos (by decide)
  have hx0 : 0 ≤ x / 2 ^ n := Int.ediv_nonneg h0 (Int.le_of_lt hp)
  have hx1 : x / 2 ^ n < 2 ^ (32 - n) := Int.ediv_lt_of_lt_mul hp (by rw [Int.mul_comm, ← h32]; omega)
  have hy0 : 0 ≤ x * 2 ^ (32 - n) % 4294967296 := Int.emod_nonneg _ (by decide)
  have hy1 : x * 2 ^ (32 - n) % 4294967296 < 4294967296 := Int.emod_lt_of_pos _ (by decide)
  have hy2 : x * 2 ^ (32 - n) % 4294967296 % 2 ^ (32 - n) = 0 := by
    rw [h32, Int.emod_emod_of_dvd _ (Int.dvd_mul_left ..), Int.mul_emod_left]
  have hx2 : x / 2 ^ n < 4294967296 := by
    refine Int.lt_of_lt_of_le hx1 ?_
    rw [h32]
    have := Int.mul_le_mul_of_nonneg_right (show (1 : Int) ≤ 2 ^ n by omega) (Int.le_of_lt hq)
    omega
  have hj := or32 (x := x * 2 ^ (32 - n) % 4294967296) (y := x / 2 ^ n) (32 - n) hy0 hy2 hy1 hx0 hx1 hx2
  rw [rot, bits_or_flip, hj, Int.add_comm]
  refine wrap32_in (by omega) ?_
  have hd : x * 2 ^ (32 - n) % 4294967296 ≤ 4294967296 - 2 ^ (32 - n) := by
    have e := Int.emod_add_mul_ediv (x * 2 ^ (32 - n) % 4294967296) (2 ^ (32 - n))
    rw [hy2, Int.zero_add] at e
    have hk : x * 2 ^ (32 - n) % 4294967296 / 2 ^ (32 - n) < 2 ^ n := Int.ediv_lt_of_lt_mul hq (by rw [← h32]; exact hy1)
    have := Int.mul_le_mul_of_nonneg_left (show x * 2 ^ (32 - n) % 4294967296 / 2 ^ (32 - n) ≤ 2 ^ n - 1 by omega) (Int.le_of_lt hq)
    rw [Int.mul_sub, Int.mul_one, Int.mul_comm (2 ^ (32 - n)) (2 ^ n), ← h32, e] at this
    exact this
  omega
set_option maxHeartbeats 400000 in
theorem right_any (x n : Int) (w : World) (h0 : 0 ≤ x) (h1 : x ≤ 4294967295) (hn : 1 ≤ n) (hn2 : n ≤ 31) :
    Calls Tryd.prog 94 #[.int .u32 x, .int .i64 n] w fun e w' => e = .returned (.int .u32 (rotI x n)) ∧ ∃ m, w' = w.drewN m := by
  obtain ⟨n, rfl⟩ := Int.eq_ofNat_of_zero_le (show 0 ≤ n by omega)
  have hA : (0 : Int) ≤ n := by omega
  have hB : (0 : Int) ≤ 32 - n := by omega
  have hv := Lib.hid (right_val (x := x) (n := n) h0 h1 (by omega) (by omega))
  go_enter Tryd.func94, Tryd.ntmps94
  go_wp2
  go_quiet (fail)
  go_wp2
  go_ret
  refine ⟨?_, _, rfl⟩
  rw [rotI, Int.toNat_natCast, ← hv.out, IntKind.wrap_u32]
  rfl
theorem rot_range {x : Int} {n : Nat} (h0 : 0 ≤ x) (h1 : x ≤ 4294967295) (hn : 1 ≤ n) (hn2 : n ≤ 31) : 0 ≤ rot x n ∧ rot x n ≤ 4294967295 := by
  rw [← right_val h0 h1 hn hn2, IntKind.wrap_u32]
  omega
def thr (x a b c : Int) : Int := xr (xr (rotI x a) (rotI x b)) (rotI x c)
set_option maxHeartbeats 400000 in
theorem three_any (x a b c : Int) (w : World) (h0 : 0 ≤ x) (h1 : x ≤ 4294967295) (ha : 1 ≤ a) (ha2 : a ≤ 31) (hb : 1 ≤ b) (hb2 : b ≤ 31) (hc : 1 ≤ c) (hc2 : c ≤ 31) :
    Calls Tryd.prog 95 #[.int .u32 x, .int .i64 a, .int .i64 b, .int .i64 c] w fun e w' => e = .returned (.int .u32 (thr x a b c)) ∧ ∃ m, w' = w.drewN m := by
  go_enter Tryd.func95, Tryd.ntmps95
  go_wp2_with fail
  refine (right_any x a _ h0 h1 ha ha2).mono ?_
  rintro e w1 ⟨rfl, m1, rfl⟩
  go_wp2_with fail
  refine (right_any x b _ h0 h1 hb hb2).mono ?_
  rintro e w2 ⟨rfl, m2, rfl⟩
  go_wp2_with fail
  refine (right_any x c _ h0 h1 hc hc2).mono ?_
  rintro e w3 ⟨rfl, m3, rfl⟩
  go_wp2_with fail
  go_ret
  exact ⟨rfl, m1 + m2 + m3, by simp [World.drewN]⟩
abbrev rkV : List Value := [.int .u32 1116352408, .int .u32 1899447441, .int .u32 3049323471, .int .u32 3921009573, .int .u32 961987163, .int .u32 1508970993, .int .u32 2453635748, .int .u32 2870763221, .int .u32 3624381080, .int .u32 310598401, .int .u32 607225278, .int .u32 1426881987, .int .u32 1925078388, .int .u32 2162078206, .int .u32 2614888103, .int .u32 3248222580, .int .u32 3835390401, .int .u32 4022224774, .int .u32 264347078, .int .u32 604807628, .int .u32 770255983, .int .u32 1249150122, .int .u32 1555081692, .int .u32 1996064986, .int .u32 2554220882, .int .u32 2821834349, .int .u32 2952996808, .int .u32 3210313671, .int .u32 3336571891, .int .u32 3584528711, .int .u32 113926993, .int .u32 338241895, .int .u32 666307205, .int .u32 773529912, .int .u32 1294757372, .int .u32 1396182291, .int .u32 1695183700, .int .u32 1986661051, .int .u32 2177026350, .int .u32 2456956037, .int .u32 2730485921, .int .u32 2820302411, .int .u32 3259730800, .int .u32 3345764771, .int .u32 3516065817, .int .u32 3600352804, .int .u32 4094571909, .int .u32 275423344, .int .u32 430227734, .int .u32 506948616, .int .u32 659060556, .int .u32 883997877, .int .u32 958139571, .int .u32 1322822218, .int .u32 1537002063, .int .u32 1747873779, .int .u32 1955562222, .int .u32 2024104815, .int .u32 2227730452, .int .u32 2361852424, .int .u32 2428436474, .int .u32 2756734187, .int .u32 3204031479, .int .u32 3329325298]
theorem rkV_eq : rkV = u32v rkL := rfl
set_option maxHeartbeats 400000 in
set_option maxRecDepth 4000 in
theorem word_any (t : Nat) (w : World) (ht : t < 64) :
    Calls Tryd.prog 96 #[.int .i64 t] w fun e w' => e = .returned (.int .u32 (rkL.getD t 0)) ∧ Below w.heap.size w w' := by
  have hc : (w.alloc (.cells rkV.toArray 123)).cell? ⟨w.heap.size, t, none⟩ = some (.int .u32 (rkL.getD t 0)) := by
    rw [rkV_eq, cell_of_row _ w.heap.size t _ _ _ (heap_alloc_new w _), u32v_at _ t (by rw [rkL_length]; exact ht)]
  obtain ⟨r, hr⟩ : ∃ r, r = rkL.getD t 0 := ⟨_, rfl⟩
  rw [← hr] at hc ⊢
  clear hr
  have h0 : (0 : Int) ≤ t := by omega
  have h1 : (t : Int) < 64 := by omega
  go_enter Tryd.func96, Tryd.ntmps96
  go_wp2
  go_ret
  exact ⟨rfl, bw_alloc (Below.refl _ _) _⟩
end Go.Proofs.YtckfdmkjeocadaaDoor
