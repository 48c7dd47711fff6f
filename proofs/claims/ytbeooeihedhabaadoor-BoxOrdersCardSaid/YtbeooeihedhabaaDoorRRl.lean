/- cavalcaderef01.ReadNumber, ReadText, ReadList: what the calls do. -/
import Derived.Test.YtbeooeihedhabaaDoorRPad
import Derived.Deep.DeepCutAuto
namespace Go.Proofs.YtbeooeihedhabaaDoor
open Go.RowKit
set_option maxHeartbeats 1000000
set_option maxRecDepth 4000
theorem beN_top {t : List UInt8} {k : Nat} (h8 : k ≤ 8) (hl : k ≤ t.length) (h0 : 0 < k) : (k = 8 ∧ 127 < (t.getD 0 0).toNat) ↔ 9223372036854775807 < beN (t.take k) := by
  have e7 : (256 : Nat) ^ 7 = 72057594037927936 := by decide
  cases t with
  | nil => simp at hl; omega
  | cons b t =>
    obtain ⟨m, rfl⟩ : ∃ m, k = m + 1 := ⟨k - 1, by omega⟩
    simp only [List.length_cons] at hl
    rw [List.take_succ_cons, beN_cons, List.length_take, Nat.min_eq_left (by omega)]
    have h1 := beN_lt (t.take m)
    rw [List.length_take, Nat.min_eq_left (by omega)] at h1
    have hb := b.toNat_lt
    have hg : ((b :: t).getD 0 0) = b := rfl
    rw [hg]
    by_cases h7 : m = 7
    · subst h7
      rw [e7] at h1 ⊢
      omega
    · have h2 : (256 : Nat) ^ m ≤ 256 ^ 6 := Nat.pow_le_pow_right (by decide) (by omega)
      have e6 : (256 : Nat) ^ 6 = 281474976710656 := by decide
      rw [e6] at h2
      have h3 : b.toNat * 256 ^ m ≤ 255 * 256 ^ m := Nat.mul_le_mul_right _ (by omega)
      omega
theorem beN_u64 {t : List UInt8} {j : Nat} (hj : j < 8) : beN (t.take j) ≤ 72057594037927935 := by
  have h1 := beN_lt (t.take j)
  have h2 : (256 : Nat) ^ (t.take j).length ≤ 256 ^ 7 := Nat.pow_le_pow_right (by decide) (by rw [List.length_take]; omega)
  have e7 : (256 : Nat) ^ 7 = 72057594037927936 := by decide
  omega
theorem rrn_end (s : ByteArray) (w : World) (_hs : s.size ≤ 140737488355328) :
    Calls Tryd.prog 52 #[.string s, .int .i64 s.size] w fun e w' => e = .returned (.tuple #[.int .i64 0, .int .i64 0, .int .i64 5]) ∧ w' = w := by
  go_enter Tryd.func52, Tryd.ntmps52
  go_wp2
  go_ret3
  exact ⟨rfl, rfl⟩
theorem rrn_e6a (s : ByteArray) (a : Nat) (w : World) (_hs : s.size ≤ 140737488355328) (ha : a < s.size) (h8 : 8 < ((s[a]'ha).toNat : Int)) :
    Calls Tryd.prog 52 #[.string s, .int .i64 a] w fun e w' => e = .returned (.tuple #[.int .i64 0, .int .i64 0, .int .i64 6]) ∧ w' = w := by
  have hbd : ((s[a]'ha).toNat : Int) ≤ 255 := by have := (s[a]'ha).toNat_lt; omega
  have hlt : (a : Int) < s.size := by omega
  go_enter Tryd.func52, Tryd.ntmps52
  go_wp2
  go_ret3
  exact ⟨rfl, rfl⟩
theorem rrn_e5 (s : ByteArray) (a : Nat) (w : World) (_hs : s.size ≤ 140737488355328) (ha : a < s.size) (h8 : ((s[a]'ha).toNat : Int) ≤ 8) (hl : (s.size : Int) < (a : Int) + 1 + ((s[a]'ha).toNat : Int)) :
    Calls Tryd.prog 52 #[.string s, .int .i64 a] w fun e w' => e = .returned (.tuple #[.int .i64 0, .int .i64 0, .int .i64 5]) ∧ w' = w := by
  have hbd : ((s[a]'ha).toNat : Int) ≤ 255 := by have := (s[a]'ha).toNat_lt; omega
  have hlt : (a : Int) < s.size := by omega
  go_enter Tryd.func52, Tryd.ntmps52
  go_wp2
  go_ret3
  exact ⟨rfl, rfl⟩
theorem rrn_rest (s : ByteArray) (a : Nat) (w : World) (hs : s.size ≤ 140737488355328) (ha : a < s.size) (k : Nat) (hk : ((s[a]'ha).toNat : Int) = k) (h8 : k ≤ 8) (hl : a + 1 + k ≤ s.size) (V : Value)
    (hV : V = if 0 < k ∧ (((s.data.toList.drop (a + 1)).getD 0 0).toNat = 0 ∨ 9223372036854775807 < beN ((s.data.toList.drop (a + 1)).take k)) then .tuple #[.int .i64 0, .int .i64 0, .int .i64 6] else .tuple #[.int .i64 (beN ((s.data.toList.drop (a + 1)).take k)), .int .i64 (a + 1 + k : Nat), .int .i64 0]) :
    Calls Tryd.prog 52 #[.string s, .int .i64 a] w fun e w' => e = .returned V ∧ w' = w := by
  have HV := Lib.hid hV
  have hg0 : decide ((a : Int) < 0) = false := decide_eq_false (by omega)
  have hg1 : decide ((s.size : Int) < a) = false := decide_eq_false (by omega)
  have hg5 : decide (s.size < a) = false := decide_eq_false (by omega)
  have hg2 : ((a : Int) == s.size) = false := by rw [beq_eq_false_iff_ne]; omega
  have hg3 : decide ((8 : Int) < k) = false := decide_eq_false (by omega)
  have hg4 : decide ((s.size : Int) < (a : Int) + 1 + k) = false := decide_eq_false (by omega)
  have hbd : ((s[a]'ha).toNat : Int) ≤ 255 := by have := (s[a]'ha).toNat_lt; omega
  have hlt : (a : Int) < s.size := by omega
  clear hV
  go_enter Tryd.func52, Tryd.ntmps52
  go_wp2
  go_loopw [8, 9] (fun n i wr => ∃ j N : Nat, j ≤ k ∧ i = .int .i64 (a + 1 + j : Nat) ∧ n = .int .u64 N ∧ N ≤ 18446744073709551615 ∧ (j < k → N ≤ 72057594037927935) ∧ Hid (N = beN ((s.data.toList.drop (a + 1)).take j)) ∧ wr = w) (fun _ i _ => a + 1 + k - (intOf i).toNat)
  case atStart => exact ⟨0, 0, by omega, by go_num, rfl, by omega, by omega, show _ = _ from rfl, rfl⟩
  case round =>
    obtain ⟨j, N, hj, rfl, rfl, hN, hN2, HN, rfl⟩ := hrel
    by_cases hltj : j < k
    · have hN3 := hN2 hltj
      clear hN2
      have hj2 : a + 1 + j < s.size := by omega
      have hbj : ((s[a + 1 + j]'hj2).toNat : Int) ≤ 255 := by have := (s[a + 1 + j]'hj2).toNat_lt; omega
      go_wp2_with fail
      go_roundw
      case rel => exact ⟨j + 1, N * 256 + (s[a + 1 + j]'hj2).toNat, by omega, by go_num, by go_num, by omega, fun h => by rw [rn_next hj2 HN.out]; exact beN_u64 (by omega), rn_next hj2 HN.out, trivial⟩
      case measure => simp [intOf]; omega
    · obtain rfl : j = k := by omega
      clear hN2
      by_cases h0 : 0 < j
      · have h1 : a + 1 < s.size := by omega
        have hg : (s.data.toList.drop (a + 1)).getD 0 0 = s[a + 1]'h1 := by rw [byte_at h1]; rfl
        have hlt1 : (a : Int) + 1 < s.size := by omega
        have hbd1 : ((s[a + 1]'h1).toNat : Int) ≤ 255 := by have := (s[a + 1]'h1).toNat_lt; omega
        have hd0 : decide ((0 : Int) < j) = true := decide_eq_true (by omega)
        by_cases hz : (s[a + 1]'h1).toNat = 0
        · have hz' : ((((s[a + 1]'h1).toNat : Nat) : Int) == 0) = true := by simp [hz]
          have HF : Hid (V = .tuple #[.int .i64 0, .int .i64 0, .int .i64 6]) := show _ = _ by rw [HV.out, hg, if_pos ⟨h0, .inl hz⟩]
          clear hg hz
          go_wp2
          go_ret3
          exact ⟨by rw [HF.out]; rfl, rfl⟩
        · have hz' : ((((s[a + 1]'h1).toNat : Nat) : Int) == 0) = false := by simp; omega
          by_cases hb : 9223372036854775807 < N
          · have hb' : decide ((9223372036854775807 : Int) < N) = true := decide_eq_true (by omega)
            have HF : Hid (V = .tuple #[.int .i64 0, .int .i64 0, .int .i64 6]) := show _ = _ by rw [HV.out, hg, ← HN.out, if_pos ⟨h0, .inr hb⟩]
            clear hg hz
            go_wp2
            go_ret3
            exact ⟨by rw [HF.out]; rfl, rfl⟩
          · have hb' : decide ((9223372036854775807 : Int) < N) = false := decide_eq_false (by omega)
            have HF : Hid (V = .tuple #[.int .i64 N, .int .i64 (a + 1 + j : Nat), .int .i64 0]) := show _ = _ by rw [HV.out, hg, ← HN.out, if_neg (by omega)]
            clear hg hz
            go_wp2
            go_ret3
            exact ⟨by rw [HF.out]; go_num, rfl⟩
      · obtain rfl : j = 0 := by omega
        obtain rfl : N = 0 := HN.out
        have HF : Hid (V = .tuple #[.int .i64 0, .int .i64 (a + 1 : Nat), .int .i64 0]) := show _ = _ by rw [HV.out, if_neg (by omega)]; rfl
        go_wp2
        go_ret3
        exact ⟨by rw [HF.out]; go_num, rfl⟩
theorem rrn_any (s : ByteArray) (a : Nat) (w : World) (hs : s.size ≤ 140737488355328) (ha : a ≤ s.size) :
    Calls Tryd.prog 52 #[.string s, .int .i64 a] w fun e w' => e = .returned (rnV (rdN (s.data.toList.drop a)) a) ∧ w' = w := by
  have hL : s.data.toList.length = s.size := rfl
  by_cases he : a = s.size
  · subst he
    rw [List.drop_of_length_le (by omega)]
    exact rrn_end s w hs
  · have ha' : a < s.size := by omega
    have hbd := (s[a]'ha').toNat_lt
    rw [byte_at ha']
    simp only [rdN]
    have hlen : (s.data.toList.drop (a + 1)).length = s.size - a - 1 := by rw [List.length_drop]; omega
    by_cases h8 : 8 < (s[a]'ha').toNat
    · rw [if_pos h8]; exact rrn_e6a s a w hs ha' (by omega)
    · rw [if_neg h8]
      by_cases hl : s.size - a - 1 < (s[a]'ha').toNat
      · rw [if_pos (by rw [hlen]; exact hl)]; exact rrn_e5 s a w hs ha' (by omega) (by omega)
      · rw [if_neg (by rw [hlen]; exact hl)]
        refine rrn_rest s a w hs ha' (s[a]'ha').toNat rfl (by omega) (by omega) _ ?_
        by_cases h0 : 0 < (s[a]'ha').toNat
        · have ht := beN_top (t := s.data.toList.drop (a + 1)) (k := (s[a]'ha').toNat) (by omega) (by rw [hlen]; omega) h0
          by_cases hc : ((s.data.toList.drop (a + 1)).getD 0 0).toNat = 0 ∨ 9223372036854775807 < beN ((s.data.toList.drop (a + 1)).take (s[a]'ha').toNat)
          · rw [if_pos ⟨h0, hc.imp id ht.2⟩, if_pos ⟨h0, hc⟩]
            rfl
          · rw [if_neg (fun h => hc (h.2.imp id ht.1)), if_neg (fun h => hc h.2)]
            show rnV (.ok _) a = _
            rw [rnV, show a + ((s[a]'ha').toNat + 1) = a + 1 + (s[a]'ha').toNat by omega]
        · rw [if_neg (fun h => h0 h.1), if_neg (fun h => h0 h.1)]
          show rnV (.ok _) a = _
          rw [rnV, show a + ((s[a]'ha').toNat + 1) = a + 1 + (s[a]'ha').toNat by omega]
theorem rrn_value (s : ByteArray) (a : Nat) (w : World) (hs : s.size ≤ 140737488355328) (ha : a ≤ s.size) {n c : Nat} (h : rdN (s.data.toList.drop a) = .ok (n, c)) :
    Calls Tryd.prog 52 #[.string s, .int .i64 a] w fun e w' => e = .returned (.tuple #[.int .i64 n, .int .i64 (a + c : Nat), .int .i64 0]) ∧ w' = w := by
  have := rrn_any s a w hs ha
  rw [h] at this
  exact this
theorem rrn_error (s : ByteArray) (a : Nat) (w : World) (hs : s.size ≤ 140737488355328) (ha : a ≤ s.size) {x : Int} (h : rdN (s.data.toList.drop a) = .error x) :
    Calls Tryd.prog 52 #[.string s, .int .i64 a] w fun e w' => e = .returned (.tuple #[.int .i64 0, .int .i64 0, .int .i64 x]) ∧ w' = w := by
  have := rrn_any s a w hs ha
  rw [h] at this
  exact this
open Go.RowKit
set_option maxHeartbeats 400000 in
set_option maxRecDepth 4000 in
theorem rrt_any (s : ByteArray) (a : Nat) (w : World) (hs : s.size ≤ 140737488355328) (ha : a ≤ s.size) :
    Calls Tryd.prog 53 #[.string s, .int .i64 a] w fun e w' => e = .returned (rtV (rdT (s.data.toList.drop a)) a) ∧ w' = w := by
  have hL : s.data.toList.length = s.size := rfl
  obtain ⟨l, hl⟩ : ∃ l, s.data.toList.drop a = l := ⟨_, rfl⟩
  have hll : l.length = s.size - a := by rw [← hl, List.length_drop]; omega
  have HL := Lib.hid hl
  rw [hl]
  cases hN : rdN l with
  | error x =>
    have hx := Lib.hid (rdN_err hN)
    have hx0 : (x != 0) = true := ne0_of hx.out
    have hr : rdT l = .error x := by simp [rdT, hN]
    have HC := Lib.hid (fun w => rrn_error s a w hs ha (x := x) (by rw [hl]; exact hN))
    rw [hr]
    clear hl hN hr hL
    go_enter Tryd.func53, Tryd.ntmps53
    go_wp2_with fail
    refine (HC.out _).mono ?_
    rintro e w1 ⟨rfl, rfl⟩
    go_wp2_with fail
    go_ret3
    exact ⟨rfl, rfl⟩
  | ok p =>
    obtain ⟨n, c⟩ := p
    have h0 := rdN_ok hN
    obtain ⟨h01, h02, h03, h04⟩ := h0
    have HC := Lib.hid (fun w => rrn_value s a w hs ha (n := n) (c := c) (by rw [hl]; exact hN))
    have hac : a + c ≤ s.size := by omega
    by_cases hbig : 65536 < n
    · have hr : rdT l = .error 3 := by simp [rdT, hN, hbig]
      rw [hr]
      clear hl hN hr hL
      go_enter Tryd.func53, Tryd.ntmps53
      go_wp2_with fail
      refine (HC.out _).mono ?_
      rintro e w1 ⟨rfl, rfl⟩
      go_wp2_with fail
      go_ret3
      exact ⟨rfl, rfl⟩
    · by_cases hsh : l.length - c < n
      · have hr : rdT l = .error 5 := by simp [rdT, hN, hbig, hsh]
        have hsh' : (s.size : Int) < (a : Int) + c + n := by omega
        rw [hr]
        clear hl hN hr hL
        go_enter Tryd.func53, Tryd.ntmps53
        go_wp2_with fail
        refine (HC.out _).mono ?_
        rintro e w1 ⟨rfl, rfl⟩
        go_wp2_with fail
        go_ret3
        exact ⟨rfl, rfl⟩
      · have hr : rdT l = .ok ((l.drop c).take n, c + n) := by simp [rdT, hN, hbig, hsh]
        have hsh' : (a : Int) + c + n ≤ (s.size : Int) := by omega
        have hex : bstr ((l.drop c).take n) = s.extract (a + c) (a + c + n) := by rw [extract_str, ← hl, List.drop_drop]
        have HE := Lib.hid hex
        rw [hr]
        have hs1 : (0 : Int) ≤ (a : Int) + c := by omega
        have hs2 : (a : Int) + c ≤ (a : Int) + c + n := by omega
        have hs3 : (a : Int) + c + n ≤ s.size := by omega
        clear hl hN hr hL hex
        go_enter Tryd.func53, Tryd.ntmps53
        go_wp2_with fail
        refine (HC.out _).mono ?_
        rintro e w1 ⟨rfl, rfl⟩
        go_wp2_with fail
        go_ret3
        refine ⟨ret3 (congrArg Value.string ?_) (intv ?_) rfl, rfl⟩
        · exact HE.out.symm
        · omega
theorem rrt_value (s : ByteArray) (a : Nat) (w : World) (hs : s.size ≤ 140737488355328) (ha : a ≤ s.size) {t : List UInt8} {c : Nat} (h : rdT (s.data.toList.drop a) = .ok (t, c)) :
    Calls Tryd.prog 53 #[.string s, .int .i64 a] w fun e w' => e = .returned (.tuple #[.string (bstr t), .int .i64 (a + c : Nat), .int .i64 0]) ∧ w' = w := by
  have := rrt_any s a w hs ha
  rw [h] at this
  exact this
theorem rrt_error (s : ByteArray) (a : Nat) (w : World) (hs : s.size ≤ 140737488355328) (ha : a ≤ s.size) {x : Int} (h : rdT (s.data.toList.drop a) = .error x) :
    Calls Tryd.prog 53 #[.string s, .int .i64 a] w fun e w' => e = .returned (.tuple #[.string ByteArray.empty, .int .i64 0, .int .i64 x]) ∧ w' = w := by
  have := rrt_any s a w hs ha
  rw [h] at this
  exact this
set_option maxHeartbeats 1000000 in
set_option maxRecDepth 4000 in
theorem rrl_any (s : ByteArray) (a : Nat) (w : World) (hs : s.size ≤ 140737488355328) (ha : a ≤ s.size) :
    Calls Tryd.prog 23 #[.string s, .int .i64 a] w (rlPost w a (rdL (s.data.toList.drop a))) := by
  have hL : s.data.toList.length = s.size := rfl
  obtain ⟨l, hl⟩ : ∃ l, s.data.toList.drop a = l := ⟨_, rfl⟩
  have hll : l.length = s.size - a := by rw [← hl, List.length_drop]; omega
  rw [hl]
  cases hN : rdN l with
  | error x =>
    have hx0 : (x != 0) = true := ne0_of (rdN_err hN)
    have hr : rdL l = .error x := by simp [rdL, hN]
    have HC := Lib.hid (fun w => rrn_error s a w hs ha (x := x) (by rw [hl]; exact hN))
    rw [hr]
    clear hl hN hr hL
    go_enter Tryd.func23, Tryd.ntmps23
    go_wp2_with fail
    refine (HC.out _).mono ?_
    rintro e w1 ⟨rfl, rfl⟩
    go_wp2_with fail
    go_ret3
    exact ⟨Below.refl _ _, rfl⟩
  | ok p =>
    obtain ⟨n, c⟩ := p
    obtain ⟨h01, h02, h03, h04⟩ := rdN_ok hN
    have HC := Lib.hid (fun w => rrn_value s a w hs ha (n := n) (c := c) (by rw [hl]; exact hN))
    have hac : a + c ≤ s.size := by omega
    by_cases hbig : 1024 < n
    · have hr : rdL l = .error 3 := by simp [rdL, hN, hbig]
      rw [hr]
      clear hl hN hr hL
      go_enter Tryd.func23, Tryd.ntmps23
      go_wp2_with fail
      refine (HC.out _).mono ?_
      rintro e w1 ⟨rfl, rfl⟩
      go_wp2_with fail
      go_ret3
      exact ⟨Below.refl _ _, rfl⟩
    · have hr : rdL l = rlRes (rdLs n 65536 (s.data.toList.drop (a + c))) [] c := by
        unfold rdL
        rw [hN]
        dsimp only
        rw [if_neg hbig, ← hl, List.drop_drop]
        cases rdLs n 65536 (s.data.toList.drop (a + c)) with
        | error e => rfl
        | ok p => obtain ⟨us, f⟩ := p; simp [rlRes]
      obtain ⟨R, hR⟩ : ∃ R, rdL l = R := ⟨_, rfl⟩
      rw [hR]
      have HR := Lib.hid (hR.symm.trans hr)
      clear hl hN hr hL hR
      go_enter Tryd.func23, Tryd.ntmps23
      go_wp2_with fail
      refine (HC.out _).mono ?_
      rintro e w1 ⟨rfl, hw1⟩
      subst hw1
      go_wp2_with fail
      go_loopw [8, 10, 11, 12] (fun nx o left i wr => ∃ (k x T U : Nat) (ts : List ByteArray), k ≤ n ∧ x ≤ s.size ∧ T + U = 65536 ∧ a + c ≤ x ∧ nx = .int .i64 x ∧ i = .int .i64 k ∧ left = .int .i64 U ∧ Hid (Below w1.heap.size w1 wr) ∧ Hid (wr.ownsRow w1.heap.size 9 1 o k (strs ts)) ∧ Hid (R = rlRes (rdLs (n - k) T (s.data.toList.drop x)) ts (x - a))) (fun _ _ _ i _ => n - (intOf i).toNat)
      case atStart => exact ⟨0, a + c, 65536, 0, [], by omega, by omega, by omega, by omega, rfl, rfl, rfl, Below.refl _ _, own_nil _ _ _ _, by have := HR.out; rw [show a + c - a = c by omega]; exact this⟩
      case round =>
        obtain ⟨k, x, T, U, ts, hk, hx, hT, hxa, rfl, rfl, rfl, hB, hO, hR⟩ := hrel
        by_cases hlt : k < n
        · obtain ⟨m, hm⟩ : ∃ m, n - k = m + 1 := ⟨n - k - 1, by omega⟩
          cases hX : rdT (s.data.toList.drop x) with
          | error y =>
            have hy0 : (y != 0) = true := ne0_of3 (rdT_err hX)
            have HCT := Lib.hid (fun w => rrt_error s x w hs hx hX)
            have HF : Hid (R = .error y) := by have := hR.out; rw [hm] at this; simp only [rdLs, hX, rlRes] at this; exact this
            clear hX hm
            go_wp2_with fail
            refine (HCT.out _).mono ?_
            rintro e w2 ⟨rfl, rfl⟩
            go_wp2_with fail
            go_ret3
            rw [HF.out]
            exact ⟨hB.out, rfl⟩
          | ok q =>
            obtain ⟨t, d⟩ := q
            have ht := rdT_ok hX
            obtain ⟨ht1, ht2, ht3, _⟩ := ht
            have htx : x + d ≤ s.size := by rw [List.length_drop] at ht2; have : s.data.toList.length = s.size := rfl; omega
            have HCT := Lib.hid (fun w => rrt_value s x w hs hx hX)
            have hsz : (bstr t).size = t.length := rfl
            have hb2 : (bstr t).size ≤ 65536 := by omega
            by_cases hfit : 65536 < U + (bstr t).size
            · have HF : Hid (R = .error 3) := by have := hR.out; rw [hm] at this; simp only [rdLs, hX, rlRes] at this; rw [if_pos (by omega)] at this; exact this
              clear hX hm hsz
              go_wp2_with fail
              refine (HCT.out _).mono ?_
              rintro e w2 ⟨rfl, rfl⟩
              go_wp2_with fail
              go_ret3
              rw [HF.out]
              exact ⟨hB.out, rfl⟩
            · have HF : Hid (R = rlRes (rdLs (n - (k + 1)) (T - (bstr t).size) (s.data.toList.drop (x + d))) (ts ++ [bstr t]) (x + d - a)) := by
                have := hR.out; rw [hm] at this; simp only [rdLs, hX] at this; rw [if_neg (by omega), List.drop_drop] at this
                rw [show n - (k + 1) = m by omega, this, hsz]
                cases rdLs m (T - t.length) (s.data.toList.drop (x + d)) with
                | error e => rfl
                | ok p => obtain ⟨us, f⟩ := p; simp only [rlRes, List.append_assoc, List.singleton_append]; congr 2; omega
              have hfit' : U + (bstr t).size ≤ 65536 := by omega
              clear hX hm hsz hfit
              go_wp2_with fail
              refine (HCT.out _).mono ?_
              rintro e w2 ⟨rfl, hw2⟩
              subst hw2
              go_wp2_with ((at_builtin; refine wpList_app1 rfl (.tmp 49) (.tmp 51) 45 9 rfl Tryd.underlying45 _ str_info (.string ByteArray.empty) rfl rfl rfl 16 rfl w1.heap.size _ k _ rfl hO.out (.string (bstr t)) rfl rfl 9 (by omega) (by omega) w1 hB.out hB.out.size (Nat.le_refl _) ?_); intro v3 w3 hO3 hB3)
              go_roundw
              case rel => exact ⟨k + 1, x + d, T - (bstr t).size, U + (bstr t).size, ts ++ [bstr t], by omega, by omega, by omega, by omega, by go_num, by go_num, by go_num, hB3, show _ from by rw [strs_app, strs_one]; exact hO3.out, HF⟩
              case measure => simp [intOf]; omega
        · obtain rfl : k = n := by omega
          have HF : Hid (R = .ok (ts, x - a)) := show R = _ by have := hR.out; rw [Nat.sub_self] at this; simpa [rdLs, rlRes] using this
          go_wp2_with fail
          go_ret3
          rw [HF.out]
          refine ⟨hB.out, u10, ?_, ?_⟩
          · exact ret3 rfl (intv (by omega)) rfl
          · have h1 : ts.length = k := by have := hO.out.1; simpa [strs] using this
            rw [h1]; exact hO.out
end Go.Proofs.YtbeooeihedhabaaDoor
