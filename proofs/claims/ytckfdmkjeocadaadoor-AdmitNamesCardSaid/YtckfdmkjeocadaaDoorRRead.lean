/- cavalcaderef01.ReadNumber: what the call does. cavalcaderef01.ReadText, ReadList: what the calls do. cavalcaderef04.List, Number, Hash: what the calls do; the numbers of a transaction's body. cavalcaderef04.Read: what the call does (printed by mkrread.py). -/
import Derived.Test.YtckfdmkjeocadaaDoorNums
import Derived.Test.YtckfdmkjeocadaaDoorRPad
import Derived.Test.YtckfdmkjeocadaaDoorReadB
import Derived.Test.YtckfdmkjeocadaaDoorBuf
import Derived.Test.YtckfdmkjeocadaaDoorLaw04
import Derived.Deep.DeepCutAuto
namespace Go.Proofs.YtckfdmkjeocadaaDoor
open Go.RowKit
set_option maxHeartbeats 1000000
set_option maxRecDepth 4000
theorem beN_top {t : List UInt8} {k : Nat} (h8 : k ≤ 8) (hl : k ≤ t.length) (h0 : 0 < k) : (k = 8 ∧ 127 < (t.getD 0 0).toNat) ↔ 9223372036854775807 < beN (t.take k) := by
  have e7 : (256 : Nat) ^ 7 = 72057594037927936 := by decide
  cases t with
  | nil => simp at hl; omega
  | cons b t =>
    obtain ⟨m, rfl⟩ : ∃ m, k = m + 1 := ⟨k - 1, by omega⟩
    simp only [List.length_cons] at hl
    rw [List.take_succ_cons, beN_cons, List.length_take, Nat.min_eq_left (by omega)]
    have h1 := beN_lt (t.take m)
    rw [List.length_take, Nat.min_eq_left (by omega)] at h1
    have hb := b.toNat_lt
    have hg : ((b :: t).getD 0 0) = b := rfl
    rw [hg]
    by_cases h7 : m = 7
    · subst h7
      rw [e7] at h1 ⊢
      omega
    · have h2 : (256 : Nat) ^ m ≤ 256 ^ 6 := Nat.pow_le_pow_right (by decide) (by omega)
      have e6 : (256 : Nat) ^ 6 = 281474976710656 := by decide
      rw [e6] at h2
      have h3 : b.toNat * 256 ^ m ≤ 255 * 256 ^ m := Nat.mul_le_mul_right _ (by omega)
      omega
theorem beN_u64 {t : List UInt8} {j : Nat} (hj : j < 8) : beN (t.take j) ≤ 72057594037927935 := by
  have h1 := beN_lt (t.take j)
  have h2 : (256 : Nat) ^ (t.take j).length ≤ 256 ^ 7 := Nat.pow_le_pow_right (by decide) (by rw [List.length_take]; omega)
  have e7 : (256 : Nat) ^ 7 = 72057594037927936 := by decide
  omega
theorem rrn_end (s : ByteArray) (w : World) (_hs : s.size ≤ 140737488355328) :
    Calls Tryd.prog 102 #[.string s, .int .i64 s.size] w fun e w' => e = .returned (.tuple #[.int .i64 0, .int .i64 0, .int .i64 5]) ∧ w' = w := by
  go_enter Tryd.func102, Tryd.ntmps102
  go_wp2
  go_ret3
  exact ⟨rfl, rfl⟩
theorem rrn_e6a (s : ByteArray) (a : Nat) (w : World) (_hs : s.size ≤ 140737488355328) (ha : a < s.size) (h8 : 8 < ((s[a]'ha).toNat : Int)) :
    Calls Tryd.prog 102 #[.string s, .int .i64 a] w fun e w' => e = .returned (.tuple #[.int .i64 0, .int .i64 0, .int .i64 6]) ∧ w' = w := by
  have hbd : ((s[a]'ha).toNat : Int) ≤ 255 := by have := (s[a]'ha).toNat_lt; omega
  have hlt : (a : Int) < s.size := by omega
  go_enter Tryd.func102, Tryd.ntmps102
  go_wp2
  go_ret3
  exact ⟨rfl, rfl⟩
theorem rrn_e5 (s : ByteArray) (a : Nat) (w : World) (_hs : s.size ≤ 140737488355328) (ha : a < s.size) (h8 : ((s[a]'ha).toNat : Int) ≤ 8) (hl : (s.size : Int) < (a : Int) + 1 + ((s[a]'ha).toNat : Int)) :
    Calls Tryd.prog 102 #[.string s, .int .i64 a] w fun e w' => e = .returned (.tuple #[.int .i64 0, .int .i64 0, .int .i64 5]) ∧ w' = w := by
  have hbd : ((s[a]'ha).toNat : Int) ≤ 255 := by have := (s[a]'ha).toNat_lt; omega
  have hlt : (a : Int) < s.size := by omega
  go_enter Tryd.func102, Tryd.ntmps102
  go_wp2
  go_ret3
  exact ⟨rfl, rfl⟩
theorem rrn_rest (s : ByteArray) (a : Nat) (w : World) (hs : s.size ≤ 140737488355328) (ha : a < s.size) (k : Nat) (hk : ((s[a]'ha).toNat : Int) = k) (h8 : k ≤ 8) (hl : a + 1 + k ≤ s.size) (V : Value)
    (hV : V = if 0 < k ∧ (((s.data.toList.drop (a + 1)).getD 0 0).toNat = 0 ∨ 9223372036854775807 < beN ((s.data.toList.drop (a + 1)).take k)) then .tuple #[.int .i64 0, .int .i64 0, .int .i64 6] else .tuple #[.int .i64 (beN ((s.data.toList.drop (a + 1)).take k)), .int .i64 (a + 1 + k : Nat), .int .i64 0]) :
    Calls Tryd.prog 102 #[.string s, .int .i64 a] w fun e w' => e = .returned V ∧ w' = w := by
  have HV := Lib.hid hV
  have hg0 : decide ((a : Int) < 0) = false := decide_eq_false (by omega)
  have hg1 : decide ((s.size : Int) < a) = false := decide_eq_false (by omega)
  have hg5 : decide (s.size < a) = false := decide_eq_false (by omega)
  have hg2 : ((a : Int) == s.size) = false := by rw [beq_eq_false_iff_ne]; omega
  have hg3 : decide ((8 : Int) < k) = false := decide_eq_false (by omega)
  have hg4 : decide ((s.size : Int) < (a : Int) + 1 + k) = false := decide_eq_false (by omega)
  have hbd : ((s[a]'ha).toNat : Int) ≤ 255 := by have := (s[a]'ha).toNat_lt; omega
  have hlt : (a : Int) < s.size := by omega
  clear hV
  go_enter Tryd.func102, Tryd.ntmps102
  go_wp2
  go_loopw [8, 9] (fun n i wr => ∃ j N : Nat, j ≤ k ∧ i = .int .i64 (a + 1 + j : Nat) ∧ n = .int .u64 N ∧ N ≤ 18446744073709551615 ∧ (j < k → N ≤ 72057594037927935) ∧ Hid (N = beN ((s.data.toList.drop (a + 1)).take j)) ∧ wr = w) (fun _ i _ => a + 1 + k - (intOf i).toNat)
  case atStart => exact ⟨0, 0, by omega, by go_num, rfl, by omega, by omega, show _ = _ from rfl, rfl⟩
  case round =>
    obtain ⟨j, N, hj, rfl, rfl, hN, hN2, HN, rfl⟩ := hrel
    by_cases hltj : j < k
    · have hN3 := hN2 hltj
      clear hN2
      have hj2 : a + 1 + j < s.size := by omega
      have hbj : ((s[a + 1 + j]'hj2).toNat : Int) ≤ 255 := by have := (s[a + 1 + j]'hj2).toNat_lt; omega
      go_wp2_with fail
      go_roundw
      case rel => exact ⟨j + 1, N * 256 + (s[a + 1 + j]'hj2).toNat, by omega, by go_num, by go_num, by omega, fun h => by rw [rn_next hj2 HN.out]; exact beN_u64 (by omega), rn_next hj2 HN.out, trivial⟩
      case measure => simp [intOf]; omega
    · obtain rfl : j = k := by omega
      clear hN2
      by_cases h0 : 0 < j
      · have h1 : a + 1 < s.size := by omega
        have hg : (s.data.toList.drop (a + 1)).getD 0 0 = s[a + 1]'h1 := by rw [byte_at h1]; rfl
        have hlt1 : (a : Int) + 1 < s.size := by omega
        have hbd1 : ((s[a + 1]'h1).toNat : Int) ≤ 255 := by have := (s[a + 1]'h1).toNat_lt; omega
        have hd0 : decide ((0 : Int) < j) = true := decide_eq_true (by omega)
        by_cases hz : (s[a + 1]'h1).toNat = 0
        · have hz' : ((((s[a + 1]'h1).toNat : Nat) : Int) == 0) = true := by simp [hz]
          have HF : Hid (V = .tuple #[.int .i64 0, .int .i64 0, .int .i64 6]) := show _ = _ by rw [HV.out, hg, if_pos ⟨h0, .inl hz⟩]
          clear hg hz
          go_wp2
          go_ret3
          exact ⟨by rw [HF.out]; rfl, rfl⟩
        · have hz' : ((((s[a + 1]'h1).toNat : Nat) : Int) == 0) = false := by simp; omega
          by_cases hb : 9223372036854775807 < N
          · have hb' : decide ((9223372036854775807 : Int) < N) = true := decide_eq_true (by omega)
            have HF : Hid (V = .tuple #[.int .i64 0, .int .i64 0, .int .i64 6]) := show _ = _ by rw [HV.out, hg, ← HN.out, if_pos ⟨h0, .inr hb⟩]
            clear hg hz
            go_wp2
            go_ret3
            exact ⟨by rw [HF.out]; rfl, rfl⟩
          · have hb' : decide ((9223372036854775807 : Int) < N) = false := decide_eq_false (by omega)
            have HF : Hid (V = .tuple #[.int .i64 N, .int .i64 (a + 1 + j : Nat), .int .i64 0]) := show _ = _ by rw [HV.out, hg, ← HN.out, if_neg (by omega)]
            clear hg hz
            go_wp2
            go_ret3
            exact ⟨by rw [HF.out]; go_num, rfl⟩
      · obtain rfl : j = 0 := by omega
        obtain rfl : N = 0 := HN.out
        have HF : Hid (V = .tuple #[.int .i64 0, .int .i64 (a + 1 : Nat), .int .i64 0]) := show _ = _ by rw [HV.out, if_neg (by omega)]; rfl
        go_wp2
        go_ret3
        exact ⟨by rw [HF.out]; go_num, rfl⟩
theorem rrn_any (s : ByteArray) (a : Nat) (w : World) (hs : s.size ≤ 140737488355328) (ha : a ≤ s.size) :
    Calls Tryd.prog 102 #[.string s, .int .i64 a] w fun e w' => e = .returned (rnV (rdN (s.data.toList.drop a)) a) ∧ w' = w := by
  have hL : s.data.toList.length = s.size := rfl
  by_cases he : a = s.size
  · subst he
    rw [List.drop_of_length_le (by omega)]
    exact rrn_end s w hs
  · have ha' : a < s.size := by omega
    have hbd := (s[a]'ha').toNat_lt
    rw [byte_at ha']
    simp only [rdN]
    have hlen : (s.data.toList.drop (a + 1)).length = s.size - a - 1 := by rw [List.length_drop]; omega
    by_cases h8 : 8 < (s[a]'ha').toNat
    · rw [if_pos h8]; exact rrn_e6a s a w hs ha' (by omega)
    · rw [if_neg h8]
      by_cases hl : s.size - a - 1 < (s[a]'ha').toNat
      · rw [if_pos (by rw [hlen]; exact hl)]; exact rrn_e5 s a w hs ha' (by omega) (by omega)
      · rw [if_neg (by rw [hlen]; exact hl)]
        refine rrn_rest s a w hs ha' (s[a]'ha').toNat rfl (by omega) (by omega) _ ?_
        by_cases h0 : 0 < (s[a]'ha').toNat
        · have ht := beN_top (t := s.data.toList.drop (a + 1)) (k := (s[a]'ha').toNat) (by omega) (by rw [hlen]; omega) h0
          by_cases hc : ((s.data.toList.drop (a + 1)).getD 0 0).toNat = 0 ∨ 9223372036854775807 < beN ((s.data.toList.drop (a + 1)).take (s[a]'ha').toNat)
          · rw [if_pos ⟨h0, hc.imp id ht.2⟩, if_pos ⟨h0, hc⟩]
            rfl
          · rw [if_neg (fun h => hc (h.2.imp id ht.1)), if_neg (fun h => hc h.2)]
            show rnV (.ok _) a = _
            rw [rnV, show a + ((s[a]'ha').toNat + 1) = a + 1 + (s[a]'ha').toNat by omega]
        · rw [if_neg (fun h => h0 h.1), if_neg (fun h => h0 h.1)]
          show rnV (.ok _) a = _
          rw [rnV, show a + ((s[a]'ha').toNat + 1) = a + 1 + (s[a]'ha').toNat by omega]
theorem rrn_value (s : ByteArray) (a : Nat) (w : World) (hs : s.size ≤ 140737488355328) (ha : a ≤ s.size) {n c : Nat} (h : rdN (s.data.toList.drop a) = .ok (n, c)) :
    Calls Tryd.prog 102 #[.string s, .int .i64 a] w fun e w' => e = .returned (.tuple #[.int .i64 n, .int .i64 (a + c : Nat), .int .i64 0]) ∧ w' = w := by
  have := rrn_any s a w hs ha
  rw [h] at this
  exact this
theorem rrn_error (s : ByteArray) (a : Nat) (w : World) (hs : s.size ≤ 140737488355328) (ha : a ≤ s.size) {x : Int} (h : rdN (s.data.toList.drop a) = .error x) :
    Calls Tryd.prog 102 #[.string s, .int .i64 a] w fun e w' => e = .returned (.tuple #[.int .i64 0, .int .i64 0, .int .i64 x]) ∧ w' = w := by
  have := rrn_any s a w hs ha
  rw [h] at this
  exact this
open Go.RowKit
set_option maxHeartbeats 400000 in
set_option maxRecDepth 4000 in
theorem rrt_any (s : ByteArray) (a : Nat) (w : World) (hs : s.size ≤ 140737488355328) (ha : a ≤ s.size) :
    Calls Tryd.prog 107 #[.string s, .int .i64 a] w fun e w' => e = .returned (rtV (rdT (s.data.toList.drop a)) a) ∧ w' = w := by
  have hL : s.data.toList.length = s.size := rfl
  obtain ⟨l, hl⟩ : ∃ l, s.data.toList.drop a = l := ⟨_, rfl⟩
  have hll : l.length = s.size - a := by rw [← hl, List.length_drop]; omega
  have HL := Lib.hid hl
  rw [hl]
  cases hN : rdN l with
  | error x =>
    have hx := Lib.hid (rdN_err hN)
    have hx0 : (x != 0) = true := ne0_of hx.out
    have hr : rdT l = .error x := by simp [rdT, hN]
    have HC := Lib.hid (fun w => rrn_error s a w hs ha (x := x) (by rw [hl]; exact hN))
    rw [hr]
    clear hl hN hr hL
    go_enter Tryd.func107, Tryd.ntmps107
    go_wp2_with fail
    refine (HC.out _).mono ?_
    rintro e w1 ⟨rfl, rfl⟩
    go_wp2_with fail
    go_ret3
    exact ⟨rfl, rfl⟩
  | ok p =>
    obtain ⟨n, c⟩ := p
    have h0 := rdN_ok hN
    obtain ⟨h01, h02, h03, h04⟩ := h0
    have HC := Lib.hid (fun w => rrn_value s a w hs ha (n := n) (c := c) (by rw [hl]; exact hN))
    have hac : a + c ≤ s.size := by omega
    by_cases hbig : 65536 < n
    · have hr : rdT l = .error 3 := by simp [rdT, hN, hbig]
      rw [hr]
      clear hl hN hr hL
      go_enter Tryd.func107, Tryd.ntmps107
      go_wp2_with fail
      refine (HC.out _).mono ?_
      rintro e w1 ⟨rfl, rfl⟩
      go_wp2_with fail
      go_ret3
      exact ⟨rfl, rfl⟩
    · by_cases hsh : l.length - c < n
      · have hr : rdT l = .error 5 := by simp [rdT, hN, hbig, hsh]
        have hsh' : (s.size : Int) < (a : Int) + c + n := by omega
        rw [hr]
        clear hl hN hr hL
        go_enter Tryd.func107, Tryd.ntmps107
        go_wp2_with fail
        refine (HC.out _).mono ?_
        rintro e w1 ⟨rfl, rfl⟩
        go_wp2_with fail
        go_ret3
        exact ⟨rfl, rfl⟩
      · have hr : rdT l = .ok ((l.drop c).take n, c + n) := by simp [rdT, hN, hbig, hsh]
        have hsh' : (a : Int) + c + n ≤ (s.size : Int) := by omega
        have hex : bstr ((l.drop c).take n) = s.extract (a + c) (a + c + n) := by rw [extract_str, ← hl, List.drop_drop]
        have HE := Lib.hid hex
        rw [hr]
        have hs1 : (0 : Int) ≤ (a : Int) + c := by omega
        have hs2 : (a : Int) + c ≤ (a : Int) + c + n := by omega
        have hs3 : (a : Int) + c + n ≤ s.size := by omega
        clear hl hN hr hL hex
        go_enter Tryd.func107, Tryd.ntmps107
        go_wp2_with fail
        refine (HC.out _).mono ?_
        rintro e w1 ⟨rfl, rfl⟩
        go_wp2_with fail
        go_ret3
        refine ⟨ret3 (congrArg Value.string ?_) (intv ?_) rfl, rfl⟩
        · exact HE.out.symm
        · omega
theorem rrt_value (s : ByteArray) (a : Nat) (w : World) (hs : s.size ≤ 140737488355328) (ha : a ≤ s.size) {t : List UInt8} {c : Nat} (h : rdT (s.data.toList.drop a) = .ok (t, c)) :
    Calls Tryd.prog 107 #[.string s, .int .i64 a] w fun e w' => e = .returned (.tuple #[.string (bstr t), .int .i64 (a + c : Nat), .int .i64 0]) ∧ w' = w := by
  have := rrt_any s a w hs ha
  rw [h] at this
  exact this
theorem rrt_error (s : ByteArray) (a : Nat) (w : World) (hs : s.size ≤ 140737488355328) (ha : a ≤ s.size) {x : Int} (h : rdT (s.data.toList.drop a) = .error x) :
    Calls Tryd.prog 107 #[.string s, .int .i64 a] w fun e w' => e = .returned (.tuple #[.string ByteArray.empty, .int .i64 0, .int .i64 x]) ∧ w' = w := by
  have := rrt_any s a w hs ha
  rw [h] at this
  exact this
set_option maxHeartbeats 1000000 in
set_option maxRecDepth 4000 in
theorem rrl_any (s : ByteArray) (a : Nat) (w : World) (hs : s.size ≤ 140737488355328) (ha : a ≤ s.size) :
    Calls Tryd.prog 101 #[.string s, .int .i64 a] w (rlPost w a (rdL (s.data.toList.drop a))) := by
  have hL : s.data.toList.length = s.size := rfl
  obtain ⟨l, hl⟩ : ∃ l, s.data.toList.drop a = l := ⟨_, rfl⟩
  have hll : l.length = s.size - a := by rw [← hl, List.length_drop]; omega
  rw [hl]
  cases hN : rdN l with
  | error x =>
    have hx0 : (x != 0) = true := ne0_of (rdN_err hN)
    have hr : rdL l = .error x := by simp [rdL, hN]
    have HC := Lib.hid (fun w => rrn_error s a w hs ha (x := x) (by rw [hl]; exact hN))
    rw [hr]
    clear hl hN hr hL
    go_enter Tryd.func101, Tryd.ntmps101
    go_wp2_with fail
    refine (HC.out _).mono ?_
    rintro e w1 ⟨rfl, rfl⟩
    go_wp2_with fail
    go_ret3
    exact ⟨Below.refl _ _, rfl⟩
  | ok p =>
    obtain ⟨n, c⟩ := p
    obtain ⟨h01, h02, h03, h04⟩ := rdN_ok hN
    have HC := Lib.hid (fun w => rrn_value s a w hs ha (n := n) (c := c) (by rw [hl]; exact hN))
    have hac : a + c ≤ s.size := by omega
    by_cases hbig : 1024 < n
    · have hr : rdL l = .error 3 := by simp [rdL, hN, hbig]
      rw [hr]
      clear hl hN hr hL
      go_enter Tryd.func101, Tryd.ntmps101
      go_wp2_with fail
      refine (HC.out _).mono ?_
      rintro e w1 ⟨rfl, rfl⟩
      go_wp2_with fail
      go_ret3
      exact ⟨Below.refl _ _, rfl⟩
    · have hr : rdL l = rlRes (rdLs n 65536 (s.data.toList.drop (a + c))) [] c := by
        unfold rdL
        rw [hN]
        dsimp only
        rw [if_neg hbig, ← hl, List.drop_drop]
        cases rdLs n 65536 (s.data.toList.drop (a + c)) with
        | error e => rfl
        | ok p => obtain ⟨us, f⟩ := p; simp [rlRes]
      obtain ⟨R, hR⟩ : ∃ R, rdL l = R := ⟨_, rfl⟩
      rw [hR]
      have HR := Lib.hid (hR.symm.trans hr)
      clear hl hN hr hL hR
      go_enter Tryd.func101, Tryd.ntmps101
      go_wp2_with fail
      refine (HC.out _).mono ?_
      rintro e w1 ⟨rfl, hw1⟩
      subst hw1
      go_wp2_with fail
      go_loopw [8, 10, 11, 12] (fun nx o left i wr => ∃ (k x T U : Nat) (ts : List ByteArray), k ≤ n ∧ x ≤ s.size ∧ T + U = 65536 ∧ a + c ≤ x ∧ nx = .int .i64 x ∧ i = .int .i64 k ∧ left = .int .i64 U ∧ Hid (Below w1.heap.size w1 wr) ∧ Hid (wr.ownsRow w1.heap.size 9 1 o k (strs ts)) ∧ Hid (R = rlRes (rdLs (n - k) T (s.data.toList.drop x)) ts (x - a))) (fun _ _ _ i _ => n - (intOf i).toNat)
      case atStart => exact ⟨0, a + c, 65536, 0, [], by omega, by omega, by omega, by omega, rfl, rfl, rfl, Below.refl _ _, own_nil _ _ _ _, by have := HR.out; rw [show a + c - a = c by omega]; exact this⟩
      case round =>
        obtain ⟨k, x, T, U, ts, hk, hx, hT, hxa, rfl, rfl, rfl, hB, hO, hR⟩ := hrel
        by_cases hlt : k < n
        · obtain ⟨m, hm⟩ : ∃ m, n - k = m + 1 := ⟨n - k - 1, by omega⟩
          cases hX : rdT (s.data.toList.drop x) with
          | error y =>
            have hy0 : (y != 0) = true := ne0_of3 (rdT_err hX)
            have HCT := Lib.hid (fun w => rrt_error s x w hs hx hX)
            have HF : Hid (R = .error y) := by have := hR.out; rw [hm] at this; simp only [rdLs, hX, rlRes] at this; exact this
            clear hX hm
            go_wp2_with fail
            refine (HCT.out _).mono ?_
            rintro e w2 ⟨rfl, rfl⟩
            go_wp2_with fail
            go_ret3
            rw [HF.out]
            exact ⟨hB.out, rfl⟩
          | ok q =>
            obtain ⟨t, d⟩ := q
            have ht := rdT_ok hX
            obtain ⟨ht1, ht2, ht3, _⟩ := ht
            have htx : x + d ≤ s.size := by rw [List.length_drop] at ht2; have : s.data.toList.length = s.size := rfl; omega
            have HCT := Lib.hid (fun w => rrt_value s x w hs hx hX)
            have hsz : (bstr t).size = t.length := rfl
            have hb2 : (bstr t).size ≤ 65536 := by omega
            by_cases hfit : 65536 < U + (bstr t).size
            · have HF : Hid (R = .error 3) := by have := hR.out; rw [hm] at this; simp only [rdLs, hX, rlRes] at this; rw [if_pos (by omega)] at this; exact this
              clear hX hm hsz
              go_wp2_with fail
              refine (HCT.out _).mono ?_
              rintro e w2 ⟨rfl, rfl⟩
              go_wp2_with fail
              go_ret3
              rw [HF.out]
              exact ⟨hB.out, rfl⟩
            · have HF : Hid (R = rlRes (rdLs (n - (k + 1)) (T - (bstr t).size) (s.data.toList.drop (x + d))) (ts ++ [bstr t]) (x + d - a)) := by
                have := hR.out; rw [hm] at this; simp only [rdLs, hX] at this; rw [if_neg (by omega), List.drop_drop] at this
                rw [show n - (k + 1) = m by omega, this, hsz]
                cases rdLs m (T - t.length) (s.data.toList.drop (x + d)) with
                | error e => rfl
                | ok p => obtain ⟨us, f⟩ := p; simp only [rlRes, List.append_assoc, List.singleton_append]; congr 2; omega
              have hfit' : U + (bstr t).size ≤ 65536 := by omega
              clear hX hm hsz hfit
              go_wp2_with fail
              refine (HCT.out _).mono ?_
              rintro e w2 ⟨rfl, hw2⟩
              subst hw2
              go_wp2_with ((at_builtin; refine wpList_app1 rfl (.tmp 49) (.tmp 51) 80 9 rfl Tryd.underlying80 _ str_info (.string ByteArray.empty) rfl rfl rfl 16 rfl w1.heap.size _ k _ rfl hO.out (.string (bstr t)) rfl rfl 9 (by omega) (by omega) w1 hB.out hB.out.size (Nat.le_refl _) ?_); intro v3 w3 hO3 hB3)
              go_roundw
              case rel => exact ⟨k + 1, x + d, T - (bstr t).size, U + (bstr t).size, ts ++ [bstr t], by omega, by omega, by omega, by omega, by go_num, by go_num, by go_num, hB3, show _ from by rw [strs_app, strs_one]; exact hO3.out, HF⟩
              case measure => simp [intOf]; omega
        · obtain rfl : k = n := by omega
          have HF : Hid (R = .ok (ts, x - a)) := show R = _ by have := hR.out; rw [Nat.sub_self] at this; simpa [rdLs, rlRes] using this
          go_wp2_with fail
          go_ret3
          rw [HF.out]
          refine ⟨hB.out, u10, ?_, ?_⟩
          · exact ret3 rfl (intv (by omega)) rfl
          · have h1 : ts.length = k := by have := hO.out.1; simpa [strs] using this
            rw [h1]; exact hO.out
open Go.RowKit
set_option maxHeartbeats 1000000
set_option maxRecDepth 4000
theorem r4list_any (s : ByteArray) (w : World) (hs : s.size ≤ 140737488355328) : Calls Tryd.prog 82 #[.string s] w (tlPost w (rdAll s)) := by
  have HC := rrl_any s 0
  rw [List.drop_zero] at HC
  cases hr : rdL s.data.toList with
  | error x =>
    have hx0 : (x != 0) = true := ne0_of3 (rdL_err hr)
    have hx1 : (x == 0) = false := by simpa using hx0
    have hR : rdAll s = .error x := by simp [rdAll, hr]
    rw [hr] at HC
    rw [hR]
    clear hr hR
    go_enter Tryd.func82, Tryd.ntmps82
    go_wp2_with fail
    refine (HC _ hs (Nat.zero_le _)).mono ?_
    rintro e w1 ⟨hb, rfl⟩
    go_wp2_with fail
    go_ret2
    exact ⟨hb, _, rfl⟩
  | ok p =>
    obtain ⟨ts, c⟩ := p
    have h0 := rdL_ok hr
    have hL : s.data.toList.length = s.size := rfl
    rw [hr] at HC
    by_cases hc : c = s.size
    · have hR : rdAll s = .ok ts := by simp [rdAll, hr, hc]
      have hc2 : decide ((c : Int) < s.size) = false := decide_eq_false (by omega)
      rw [hR]
      clear hr hR
      go_enter Tryd.func82, Tryd.ntmps82
      go_wp2_with fail
      refine (HC _ hs (Nat.zero_le _)).mono ?_
      rintro e w1 ⟨hb, v, rfl, ho⟩
      have HB := Lib.hid hb
      have HO := Lib.hid ho
      clear hb ho
      rw [Nat.zero_add]
      go_wp2_with fail
      go_ret2
      exact ⟨HB.out, v, rfl, HO.out⟩
    · have hR : rdAll s = .error 6 := by simp [rdAll, hr, hc]
      have hc2 : decide ((c : Int) < s.size) = true := decide_eq_true (by omega)
      rw [hR]
      clear hr hR
      go_enter Tryd.func82, Tryd.ntmps82
      go_wp2_with fail
      refine (HC _ hs (Nat.zero_le _)).mono ?_
      rintro e w1 ⟨hb, v, rfl, ho⟩
      have HB := Lib.hid hb
      clear hb ho
      rw [Nat.zero_add]
      go_wp2_with fail
      go_ret2
      exact ⟨HB.out, _, rfl⟩
def r4V (r : Except Int Nat) : Value := match r with | .error e => .tuple #[.int .i64 0, .int .i64 e] | .ok n => .tuple #[.int .i64 n, .int .i64 0]
theorem r4num_any (s : ByteArray) (w : World) (hs : s.size ≤ 140737488355328) : Calls Tryd.prog 83 #[.string s] w fun e w' => e = .returned (r4V (rdNum s)) ∧ w' = w := by
  have HC := fun w => rrn_any s 0 w hs (Nat.zero_le _)
  rw [List.drop_zero] at HC
  unfold rdNum
  cases hr : rdN s.data.toList with
  | error x =>
    have hx0 : (x != 0) = true := ne0_of (rdN_err hr)
    have hx1 : (x == 0) = false := by simpa using hx0
    rw [hr] at HC
    clear hr
    go_enter Tryd.func83, Tryd.ntmps83
    go_wp2_with fail
    refine (HC _).mono ?_
    rintro e w1 ⟨rfl, rfl⟩
    simp only [rnV]
    go_wp2_with fail
    go_ret2
    exact ⟨rfl, rfl⟩
  | ok p =>
    obtain ⟨n, c⟩ := p
    have h0 := rdN_ok hr
    have hL : s.data.toList.length = s.size := rfl
    rw [hr] at HC
    by_cases hc : c = s.size
    · have hc2 : decide ((c : Int) < s.size) = false := decide_eq_false (by omega)
      simp only [if_pos hc]
      clear hr
      go_enter Tryd.func83, Tryd.ntmps83
      go_wp2_with fail
      refine (HC _).mono ?_
      rintro e w1 ⟨rfl, rfl⟩
      simp only [rnV, Nat.zero_add]
      go_wp2_with fail
      go_ret2
      exact ⟨rfl, rfl⟩
    · have hc2 : decide ((c : Int) < s.size) = true := decide_eq_true (by omega)
      simp only [if_neg hc]
      clear hr
      go_enter Tryd.func83, Tryd.ntmps83
      go_wp2_with fail
      refine (HC _).mono ?_
      rintro e w1 ⟨rfl, rfl⟩
      simp only [rnV, Nat.zero_add]
      go_wp2_with fail
      go_ret2
      exact ⟨rfl, rfl⟩
theorem hash0_bld (w : World) : (Instr.build 23 #[]).run Tryd.prog w = .ok (.agg zl32.toArray) w := by kernel_rfl
def hpre (l : List UInt8) (j : Nat) : List Value := u8s (l.take j) ++ List.replicate (32 - j) (.int .u8 0)
theorem hpre_set {l : List UInt8} (hl : l.length = 32) {j : Nat} (hj : j < 32) : (hpre l j).set j (.int .u8 (l[j]'(by omega)).toNat) = hpre l (j + 1) := by
  unfold hpre
  rw [List.set_append_right _ _ (by rw [u8s_length, List.length_take]; omega), u8s_length, List.length_take, show j - min j l.length = 0 by omega, show 32 - j = (32 - (j + 1)) + 1 by omega, List.replicate_succ, List.set_cons_zero, List.take_succ_eq_append_getElem (by omega), u8s_append, List.append_assoc]
  rfl
theorem hpre_end {l : List UInt8} (hl : l.length = 32) : hpre l 32 = u8s l := by
  unfold hpre
  rw [List.take_of_length_le (by omega)]
  simp
theorem hpre_get {l : List UInt8} (hl : l.length = 32) {j : Nat} (hj : j < 32) : (hpre l j)[j]? = some (.int .u8 0) := by
  unfold hpre
  rw [List.getElem?_append_right (by rw [u8s_length, List.length_take]; omega), u8s_length, List.length_take, show j - min j l.length = 0 by omega, List.getElem?_replicate, if_pos (by omega)]
theorem r4hash_any (s : ByteArray) (w : World) (hs : s.size = 32) : Calls Tryd.prog 84 #[.string s] w fun e w' => e = .returned (.agg (u8s s.data.toList).toArray) ∧ Below w.heap.size w w' := by
  have hL : s.data.toList.length = 32 := hs
  have HL := Lib.hid hL
  have hz0 : ((w.alloc (.cells zl32.toArray 23)).alloc (.cells zl32.toArray 23)).heap[w.heap.size]? = some (.cells zl32.toArray 23 (0, 0)) := (Below.heap_alloc _ _ _ (by simp)).trans (heap_alloc_new w _)
  have hz1 : ((w.alloc (.cells zl32.toArray 23)).alloc (.cells zl32.toArray 23)).heap[w.heap.size + 1]? = some (.cells zl32.toArray 23 (0, 0)) := heap_alloc2_new w _ _
  have HB0 := Lib.hid (bw_alloc (bw_alloc (Below.refl w.heap.size w) (.cells zl32.toArray 23)) (.cells zl32.toArray 23))
  clear hL
  go_enter Tryd.func84, Tryd.ntmps84
  go_wp2_with (first
    | (with_reducible refine wpList_build rfl 23 [] rfl [] (.agg zl32.toArray) rfl (hash0_bld _) ?_)
    | ((with_reducible refine wpList_store_whole rfl 23 (.tmp 3) (.tmp 5) rfl (w.heap.size + 1) zl32 zl32 23 rfl rfl hz1 rfl (by rw [zl32_eq]; exact hash_info z32_length) zl32_one ?_); intro w2 hU2; have hT2 := hU2.out.at_; have hZ2 := (hU2.out.other _ (by omega)).trans hz0; have HB2 := Lib.hid (hU2.out.below HB0.out (by omega)); clear hz0 hz1))
  go_loopw [4] (fun i wr => ∃ j : Nat, j ≤ 32 ∧ i = .int .i64 j ∧ Hid (Below w.heap.size w wr) ∧ Hid (wr.heap[w.heap.size]? = some (.cells zl32.toArray 23 (0, 0))) ∧ Hid (wr.heap[w.heap.size + 1]? = some (.cells (hpre s.data.toList j).toArray 23 (0, 0)))) (fun i _ => 32 - (intOf i).toNat)
  case atStart => exact ⟨0, by omega, rfl, HB2, hZ2, hT2⟩
  case round =>
    obtain ⟨j, hj, rfl, HB, HZ, HT⟩ := hrel
    by_cases hlt : j < 32
    · have hj2 : j < s.size := by omega
      have f0 : (0 : Int) ≤ j := by omega
      have f1 : (j : Int) < s.size := by omega
      have f2 : (j : Int) < 32 := by omega
      have c1 : wr.cell? ⟨w.heap.size + 1, j, none⟩ = some (.int .u8 0) := by rw [cell_of_row wr _ _ _ _ _ HT.out, List.getElem?_toArray]; exact hpre_get HL.out hlt
      have c2 : wr.frozen? ⟨w.heap.size + 1, j, none⟩ = false := frozen_of_row wr _ _ _ _ HT.out
      go_wp2_with fail
      go_roundw
      case rel => exact ⟨j + 1, by omega, by go_num, HB.out.setCell (show w.heap.size ≤ w.heap.size + 1 by omega) _, show _ = _ from (heap_setCell_other _ _ _ _ (by show w.heap.size ≠ w.heap.size + 1; omega)).trans HZ.out, show _ = _ from by rw [← hpre_set HL.out hlt]; exact set_row HT.out _⟩
      case measure => simp [intOf]; omega
    · obtain rfl : j = 32 := by omega
      have hT : wr.heap[w.heap.size + 1]? = some (.cells (u8s s.data.toList).toArray 23 (0, 0)) := by have := HT.out; rw [hpre_end HL.out] at this; exact this
      have hZ := HZ.out
      go_wp2_with (first
        | (with_reducible refine wpList_load_rows rfl 23 (.tmp 3) rfl (w.heap.size + 1) 0 (u8s s.data.toList) (u8s s.data.toList) 23 (0, 0) _ rfl hT id_at Tryd.underlying23 rfl (hash_info HL.out) ?_)
        | ((with_reducible refine wpList_store_whole rfl 23 (.tmp 2) (.tmp 15) rfl w.heap.size (u8s s.data.toList) zl32 23 rfl rfl hZ (by rw [u8s_length, HL.out, zl32_length]) (hash_info HL.out) (u8s_one _) ?_); intro w3 hU3))
      exact post_cell 2 23 rfl w.heap.size _ (u8s s.data.toList) _ _ hU3.out.at_ Tryd.underlying23 rfl (hash_info HL.out) rfl rfl ⟨rfl, hU3.out.below HB.out (Nat.le_refl _)⟩
/-- the numbers of a transaction's body, in their places -/
def rdNs : Nat → List ByteArray → Except Int (List Int)
  | _, [] => .ok []
  | k, x :: xs => if k = 4 then (match rdNs (k + 1) xs with | .error e => .error e | .ok ns => .ok (0 :: ns)) else
    match rdNum x with
    | .error e => .error e
    | .ok n => match rdNs (k + 1) xs with | .error e => .error e | .ok ns => .ok ((n : Int) :: ns)
def foldN : Nat → List Int → TX → TX
  | _, [], t => t
  | k, n :: ns, t => foldN (k + 1) ns (if k = 4 then t else t.upd k n)
theorem rdNums_ns : ∀ (k : Nat) (xs : List ByteArray) (t : TX), rdNums k xs t = match rdNs k xs with | .error e => .error e | .ok ns => .ok (foldN k ns t)
  | _, [], _ => rfl
  | k, x :: xs, t => by
    rw [rdNums, rdNs]
    by_cases h4 : k = 4
    · rw [if_pos h4, if_pos h4, rdNums_ns (k + 1) xs t]
      cases rdNs (k + 1) xs with
      | error e => rfl
      | ok ns => simp only [foldN, if_pos h4]
    · rw [if_neg h4, if_neg h4]
      cases rdNum x with
      | error e => rfl
      | ok n =>
        show rdNums (k + 1) xs (t.upd k n) = _
        rw [rdNums_ns (k + 1) xs (t.upd k n)]
        cases rdNs (k + 1) xs with
        | error e => rfl
        | ok ns => simp only [foldN, if_neg h4]
def joinN (ns : List Int) (r : Except Int (List Int)) : Except Int (List Int) := match r with | .error e => .error e | .ok ms => .ok (ns ++ ms)
theorem joinN_skip {ns : List Int} {b : List ByteArray} (h : 4 < b.length) : joinN ns (rdNs 4 (b.drop 4)) = joinN (ns ++ [0]) (rdNs 5 (b.drop 5)) := by
  rw [List.drop_eq_getElem_cons h, rdNs, if_pos rfl]
  cases rdNs 5 (b.drop 5) with
  | error e => rfl
  | ok ms => simp [joinN]
theorem joinN_err {ns : List Int} {b : List ByteArray} {k : Nat} (h : k < b.length) (h4 : k ≠ 4) {e : Int} (hx : rdNum (b[k]'h) = .error e) : joinN ns (rdNs k (b.drop k)) = .error e := by
  rw [List.drop_eq_getElem_cons h, rdNs, if_neg h4, hx]
  rfl
theorem joinN_ok {ns : List Int} {b : List ByteArray} {k : Nat} (h : k < b.length) (h4 : k ≠ 4) {n : Nat} (hx : rdNum (b[k]'h) = .ok n) : joinN ns (rdNs k (b.drop k)) = joinN (ns ++ [(n : Int)]) (rdNs (k + 1) (b.drop (k + 1))) := by
  rw [List.drop_eq_getElem_cons h, rdNs, if_neg h4, hx]
  cases rdNs (k + 1) (b.drop (k + 1)) with
  | error e => rfl
  | ok ms => simp [joinN]
theorem joinN_end {ns : List Int} {b : List ByteArray} {k : Nat} (h : k = b.length) : joinN ns (rdNs k (b.drop k)) = .ok ns := by
  rw [h, List.drop_length, rdNs]
  simp [joinN]
theorem rdNum_err2 {x : ByteArray} {e : Int} (h : rdNum x = .error e) : (e != 0) = true := by
  unfold rdNum at h
  split at h
  · rename_i hn
    injection h with h
    subst h
    exact ne0_of (rdN_err hn)
  · split at h
    · cases h
    · injection h with h
      subst h
      rfl
open Go.RowKit
set_option maxHeartbeats 4000000
set_option maxRecDepth 4000
def nums64 (l : List Int) : List Value := l.map (Value.int .i64)
theorem nums64_app (a b : List Int) : nums64 (a ++ b) = nums64 a ++ nums64 b := by simp [nums64]
theorem int_info : Tryd.prog.info? 3 = some { ((Tryd.prog.info? 3).getD default) with zero := some (.int .i64 0), size := 1, bytes := 8 } := by kernel_rfl
theorem own_view1 {w : World} {base : Nat} {v : Value} {e : TypeId} {xs : List Value} {n : Nat} (h : w.ownsRow base e 1 v n xs) (h0 : 0 < n) :
    ∃ g c, v = .slice (some ⟨g, 0, none⟩) n c ∧ base ≤ g ∧ g < w.heap.size ∧ ∀ k u, xs[k]? = some u → w.cell? ⟨g, k, none⟩ = some u := by
  rcases h.2 with ⟨_, h1⟩ | ⟨g, cap, cur, rfl, hg, hh, _, _, _, ht⟩
  · omega
  · refine ⟨g, cap, rfl, hg, block_lt hh, fun k u hk => ?_⟩
    rw [cell_of_row w g k cur _ (0, 0) hh, ← Array.getElem?_toList]
    rw [← ht, List.getElem?_take] at hk
    split at hk
    · exact hk
    · cases hk
theorem tx_build6 (a b c d : Int) (x : ByteArray) {h : List UInt8} (hl : h.length = 32) (w : World) :
    (Instr.build 25 #[(0, .int .i64 a), (1, .int .i64 b), (2, .int .i64 c), (3, .int .i64 d), (4, .string x), (9, .agg (u8s h).toArray)]).run Tryd.prog w = .ok (.agg (TX.cells ⟨a, b, c, d, x, false, 0, 0, z32, h⟩).toArray) w := by
  refine run_build_struct (places := #[(0, 1), (1, 1), (2, 1), (3, 1), (4, 1), (5, 1), (6, 1), (7, 1), (8, 32), (40, 32)]) w (tx_zero w) Tryd.underlying25 (by kernel_rfl) ?_
  have hl2 : (u8s h).length = 32 := by rw [u8s_length, hl]
  rw [fill_cons (off := 0) (size := 1) rfl rfl (by decide), fill_cons (off := 1) (size := 1) rfl rfl (Nat.le_of_ble_eq_true rfl), fill_cons (off := 2) (size := 1) rfl rfl (Nat.le_of_ble_eq_true rfl), fill_cons (off := 3) (size := 1) rfl rfl (Nat.le_of_ble_eq_true rfl), fill_cons (off := 4) (size := 1) rfl rfl (Nat.le_of_ble_eq_true rfl), fill_cons (off := 40) (size := 32) rfl (by simpa [Value.cells] using hl2) (Nat.le_of_ble_eq_true rfl)]
  rw [Instr.fill]
  congr 1
  rw [zlTx_eq]
  show (splice (splice (splice (splice (splice (splice TX.zero.cells 0 [.int .i64 a]) 1 [.int .i64 b]) 2 [.int .i64 c]) 3 [.int .i64 d]) 4 [.string x]) 40 (u8s h)).toArray = _
  congr 1
  have e1 : splice (splice (splice (splice (splice TX.zero.cells 0 [.int .i64 a]) 1 [.int .i64 b]) 2 [.int .i64 c]) 3 [.int .i64 d]) 4 [.string x] = [.int .i64 a, .int .i64 b, .int .i64 c, .int .i64 d, .string x, .bool false, .int .i64 0, .int .i64 0] ++ (u8s z32 ++ u8s z32) := rfl
  rw [e1, splice, hl2]
  simp [TX.cells, u8s_length, z32_length]
theorem rdTx_2 {s : ByteArray} {l : List ByteArray} (hr : rdAll s = .ok l) (h : l.length = 2) : ∃ x y, l = [x, y] ∧ rdTx s = if y.size = 32 then rdParts x y none else .error 6 := by
  match l, h with
  | [x, y], _ => exact ⟨x, y, rfl, by rw [rdTx, hr]⟩
theorem rdTx_3 {s : ByteArray} {l : List ByteArray} (hr : rdAll s = .ok l) (h : l.length = 3) : ∃ x y z, l = [x, y, z] ∧ rdTx s = if y.size = 32 ∧ z.size = 32 then rdParts x y (some z) else .error 6 := by
  match l, h with
  | [x, y, z], _ => exact ⟨x, y, z, rfl, by rw [rdTx, hr]⟩
theorem rdTx_n {s : ByteArray} {l : List ByteArray} (hr : rdAll s = .ok l) (h2 : l.length ≠ 2) (h3 : l.length ≠ 3) : rdTx s = .error 6 := by
  rw [rdTx, hr]
  match l, h2, h3 with
  | [], _, _ => rfl
  | [_], _, _ => rfl
  | [_, _], h2, _ => exact absurd rfl h2
  | [_, _, _], _, h3 => exact absurd rfl h3
  | _ :: _ :: _ :: _ :: _, _, _ => rfl
theorem rread_err1 (s : ByteArray) (w : World) (hs : s.size ≤ 140737488355328) {x : Int} (hr : rdAll s = .error x) : Calls Tryd.prog 43 #[.string s] w (rdPost w (.error x)) := by
  have HC := r4list_any s
  rw [hr] at HC
  have hx0 := rdAll_err hr
  clear hr
  have hz0 : (w.alloc (.cells zlTx.toArray 25)).heap[w.heap.size]? = some (.cells zlTx.toArray 25 (0, 0)) := heap_alloc_new _ _
  go_enter Tryd.func43, Tryd.ntmps43
  go_wp2_with fail
  refine (HC _ hs).mono ?_
  rintro e w1 ⟨hb, v, rfl⟩
  have hz1 := (hb.block w.heap.size (by simp)).trans hz0
  have HB := Lib.hid (bw_call (bw_alloc (Below.refl w.heap.size w) _) hb)
  clear hb hz0
  go_wp2_with (first
    | (with_reducible refine wpList_build rfl 25 [] rfl [] (.agg zlTx.toArray) rfl (tx_build0 _) ?_)
    | ((with_reducible refine wpList_store_whole rfl 25 (.tmp 2) (.tmp 20) rfl w.heap.size zlTx zlTx 25 rfl rfl hz1 rfl zlTx_info zlTx_one ?_); intro w2 hU))
  exact post_cell_tmp 2 3 25 rfl w.heap.size _ zlTx _ _ hU.out.at_ Tryd.underlying25 rfl zlTx_info (.int .i64 x) rfl rfl rfl ⟨rfl, hU.out.below HB.out (Nat.le_refl _)⟩
theorem rread_len (s : ByteArray) (w : World) (hs : s.size ≤ 140737488355328) {l : List ByteArray} (hr : rdAll s = .ok l) (h2 : l.length ≠ 2) (h3 : l.length ≠ 3) : Calls Tryd.prog 43 #[.string s] w (rdPost w (.error 6)) := by
  have HC := r4list_any s
  rw [hr] at HC
  have hz0 : (w.alloc (.cells zlTx.toArray 25)).heap[w.heap.size]? = some (.cells zlTx.toArray 25 (0, 0)) := heap_alloc_new _ _
  obtain ⟨n, hn⟩ : ∃ n, n = l.length := ⟨_, rfl⟩
  rw [← hn] at h2 h3
  have e2 : ((n : Int) != 2) = true := by rw [bne_iff_ne]; omega
  have e3 : ((n : Int) != 3) = true := by rw [bne_iff_ne]; omega
  clear hr h2 h3
  go_enter Tryd.func43, Tryd.ntmps43
  go_wp2_with fail
  refine (HC _ hs).mono ?_
  rintro e w1 ⟨hb, v, rfl, ho⟩
  rw [← hn] at ho
  clear hn
  obtain ⟨q, c, rfl⟩ := own_head ho
  have hz1 := (hb.block w.heap.size (by simp)).trans hz0
  have HB := Lib.hid (bw_call (bw_alloc (Below.refl w.heap.size w) _) hb)
  clear hb hz0 ho
  go_wp2_with (first
    | (with_reducible refine wpList_build rfl 25 [] rfl [] (.agg zlTx.toArray) rfl (tx_build0 _) ?_)
    | ((with_reducible refine wpList_store_whole rfl 25 (.tmp 2) (.tmp 30) rfl w.heap.size zlTx zlTx 25 rfl rfl hz1 rfl zlTx_info zlTx_one ?_); intro w2 hU))
  exact post_cell_tmp 2 3 25 rfl w.heap.size _ zlTx _ _ hU.out.at_ Tryd.underlying25 rfl zlTx_info (.int .i64 6) rfl rfl rfl ⟨rfl, hU.out.below HB.out (Nat.le_refl _)⟩
theorem keep_row2 {W W' : World} (hb : Below W.heap.size W W') {b : Nat} {o : Obj} (h : W.heap[b]? = some o) : W'.heap[b]? = some o := (hb.block b (block_lt h)).trans h
theorem rread_2 (s : ByteArray) (w : World) (hs : s.size ≤ 140737488355328) {x y : ByteArray} (hr : rdAll s = .ok [x, y]) (R : Except Int TX) (hR : R = if y.size = 32 then rdParts x y none else .error 6) :
    Calls Tryd.prog 43 #[.string s] w (rdPost w R) := by
  have HC := r4list_any s
  rw [hr] at HC
  have HSZ := Lib.hid (rdAll_sizes hr)
  have HR := Lib.hid hR
  have hz0 : (w.alloc (.cells zlTx.toArray 25)).heap[w.heap.size]? = some (.cells zlTx.toArray 25 (0, 0)) := heap_alloc_new _ _
  clear hr hR
  go_enter Tryd.func43, Tryd.ntmps43
  go_wp2_with fail
  refine (HC _ hs).mono ?_
  rintro e w1 ⟨hb, v, rfl, ho⟩
  obtain ⟨g, c, rfl, hg, hg2, hc⟩ := own_view ho (by simp)
  have hc0 : w1.cell? ⟨g, 0, none⟩ = some (.string x) := hc 0 (by simp)
  have hc1 : w1.cell? ⟨g, 1, none⟩ = some (.string y) := hc 1 (by simp)
  have hz1 := (hb.block w.heap.size (by simp)).trans hz0
  have HB := Lib.hid (bw_call (bw_alloc (Below.refl w.heap.size w) (.cells zlTx.toArray 25)) hb)
  clear hb hz0 ho hc HC
  go_wp2_with fail
  go_loopw [6] (fun i wr => (i = .int .i64 1 ∨ (i = .int .i64 2 ∧ y.size = 32)) ∧ wr = w1) (fun i _ => 4 - (intOf i).toNat)
  case atStart => exact ⟨.inl rfl, rfl⟩
  case round =>
    obtain ⟨hcase, rfl⟩ := hrel
    rcases hcase with rfl | ⟨rfl, hy⟩
    · by_cases hq : y.size = 32
      · have hd : ((y.size : Int) != 32) = false := by rw [hq]; rfl
        go_wp2_with fail
        go_roundw
        case rel => exact ⟨.inr ⟨rfl, hq⟩, trivial⟩
        case measure => simp [intOf]
      · have hd : ((y.size : Int) != 32) = true := by rw [bne_iff_ne]; omega
        have HF : Hid (R = .error 6) := show _ = _ by rw [HR.out, if_neg (fun h => hq h)]
        clear hq
        go_wp2_with (first
          | (with_reducible refine wpList_build rfl 25 [] rfl [] (.agg zlTx.toArray) rfl (tx_build0 _) ?_)
          | ((with_reducible refine wpList_store_whole rfl 25 (.tmp 2) (.tmp 43) rfl w.heap.size zlTx zlTx 25 rfl rfl hz1 rfl zlTx_info zlTx_one ?_); intro wz hUz))
        rw [HF.out]
        exact post_cell_tmp 2 3 25 rfl w.heap.size _ zlTx _ _ hUz.out.at_ Tryd.underlying25 rfl zlTx_info (.int .i64 6) rfl rfl rfl ⟨rfl, hUz.out.below HB.out (Nat.le_refl _)⟩
    · have HRP : Hid (R = rdParts x y none) := show _ = _ by rw [HR.out, if_pos hy]
      have HY := Lib.hid hy
      have hx : x.size ≤ 140737488355328 := Nat.le_trans (HSZ.out x (by simp)) (by decide)
      have HC2 := Lib.hid (r4list_any x)
      clear hy HR
      go_wp2_with fail
      refine (HC2.out _ hx).mono ?_
      rintro e w3 ⟨hb3, hq3⟩
      have hz3 := keep_row2 hb3 hz1
      have HB3 := Lib.hid (bw_call HB.out hb3)
      cases hr2 : rdAll x with
      | error k =>
        rw [hr2] at hq3
        obtain ⟨v3, rfl⟩ := hq3
        have hx0 := rdAll_err hr2
        have HF : Hid (R = .error k) := show _ = _ by rw [HRP.out, rdParts, hr2]
        clear hr2 hb3 hz1
        go_wp2_with (first
          | (with_reducible refine wpList_build rfl 25 [] rfl [] (.agg zlTx.toArray) rfl (tx_build0 _) ?_)
          | ((with_reducible refine wpList_store_whole rfl 25 (.tmp 2) (.tmp 53) rfl w.heap.size zlTx zlTx 25 rfl rfl hz3 rfl zlTx_info zlTx_one ?_); intro wz hUz))
        rw [HF.out]
        exact post_cell_tmp 2 3 25 rfl w.heap.size _ zlTx _ _ hUz.out.at_ Tryd.underlying25 rfl zlTx_info (.int .i64 k) rfl rfl rfl ⟨rfl, hUz.out.below HB3.out (Nat.le_refl _)⟩
      | ok b =>
        rw [hr2] at hq3
        obtain ⟨v3, rfl, ho3⟩ := hq3
        by_cases hbl : b.length = 5
        · have HRD : Hid (R = rdBody b (TX.start (b.getD 4 ByteArray.empty) false y.data.toList) z32) := show _ = _ by rw [HRP.out, rdParts, hr2]; simp [hbl]
          have HBS := Lib.hid (rdAll_sizes hr2)
          obtain ⟨d, hd⟩ : ∃ d, d = b.getD 4 ByteArray.empty := ⟨_, rfl⟩
          rw [← hd] at HRD
          have hd4 : b[4]? = some d := by rw [hd, List.getD_eq_getElem?_getD, List.getElem?_eq_getElem (by omega)]; rfl
          obtain ⟨g3, c3, rfl, hg3, hg4, hc3⟩ := own_view ho3 (by omega)
          have HD4 : Hid (w3.cell? ⟨g3, 4, none⟩ = some (.string d)) := show _ = _ by rw [hc3 4 (by omega)]; rw [List.getElem?_eq_getElem (by omega)] at hd4; injection hd4 with hd4; rw [hd4]
          have HDS : Hid (d.size ≤ 65536) := show _ ≤ _ from HBS.out d (List.mem_of_getElem? hd4)
          have HC1 : Hid (w3.cell? ⟨g, 1, none⟩ = some (.string y)) := show _ = _ from (hb3.cell (p := ⟨g, 1, none⟩) hg2).trans hc1
          have HO3 := Lib.hid hc3
          have HG2 : Hid (g < w3.heap.size ∧ g3 < w3.heap.size) := show _ ∧ _ from ⟨Nat.lt_of_lt_of_le hg2 hb3.size, hg4⟩
          rw [hbl]
          clear hb3 hz1 hc0 hc1 ho3 hc3 hd hd4 hr2 hg hg2 hg3 hg4
          go_wp2_with fail
          go_loopw [8, 9] (fun o i wr => ∃ (k : Nat) (ns : List Int), k ≤ 5 ∧ i = .int .i64 k ∧ Hid (ns.length = k ∧ ∀ n ∈ ns, 0 ≤ n ∧ n ≤ 9223372036854775807) ∧ Hid (Below w3.heap.size w3 wr) ∧ Hid (wr.ownsRow w3.heap.size 3 1 o k (nums64 ns)) ∧ Hid (rdNs 0 b = joinN ns (rdNs k (b.drop k)))) (fun _ i _ => 5 - (intOf i).toNat)
          case atStart => exact ⟨0, [], by omega, rfl, ⟨rfl, by simp⟩, Below.refl _ _, own_nil _ _ _ _, show _ = _ from by rw [List.drop_zero]; cases rdNs 0 b <;> rfl⟩
          case round =>
            obtain ⟨k, ns, hk, rfl, HNS, HBR, HO, HJ⟩ := hrel
            by_cases hlt : k < 5
            · have hkb : k < b.length := by omega
              by_cases h4 : k = 4
              · subst h4
                have HJ5 : Hid (rdNs 0 b = joinN (ns ++ [0]) (rdNs 5 (b.drop 5))) := show _ = _ from HJ.out.trans (joinN_skip hkb)
                go_wp2_with ((at_builtin; refine wpList_app1 rfl (.tmp 82) (.tmp 83) 59 3 rfl Tryd.underlying59 _ int_info (.int .i64 0) rfl rfl rfl 8 rfl w3.heap.size _ 4 _ rfl HO.out (.int .i64 0) rfl rfl 3 (by omega) (by omega) w3 HBR.out HBR.out.size (Nat.le_refl _) ?_); intro v4 w4 hO4 hB4)
                go_roundw
                case rel => exact ⟨5, ns ++ [0], by omega, by go_num, ⟨by rw [List.length_append, HNS.out.1]; rfl, fun n hn => (List.mem_append.1 hn).elim (HNS.out.2 n) (fun h => by rw [List.mem_singleton.1 h]; decide)⟩, hB4, show World.ownsRow _ _ _ _ _ _ _ from by rw [nums64_app]; exact hO4.out, HJ5⟩
                case measure => simp [intOf]
              · have hd4 : ((k : Int) == 4) = false := by rw [beq_eq_false_iff_ne]; omega
                have hcb := (HBR.out.cell (p := ⟨g3, k, none⟩) HG2.out.2).trans (HO3.out k hkb)
                have hxs : (b[k]'hkb).size ≤ 140737488355328 := Nat.le_trans (HBS.out _ (List.getElem_mem hkb)) (by decide)
                have HNU := Lib.hid (fun w => r4num_any (b[k]'hkb) w hxs)
                have f0 : (0 : Int) ≤ k := by omega
                have f1 : (k : Int) < 5 := by omega
                cases hN : rdNum (b[k]'hkb) with
                | error e =>
                  have hx0 := rdNum_err2 hN
                  have HF : Hid (R = .error e) := show _ = _ by rw [HRD.out, rdBody, rdNums_ns, HJ.out, joinN_err hkb h4 hN]
                  have hzr := keep_row2 HBR.out hz3
                  have HBW := Lib.hid (HB3.out.trans (HBR.out.mono HB3.out.size))
                  rw [hN] at HNU
                  clear hN h4
                  go_wp2_with fail
                  refine (HNU.out _).mono ?_
                  rintro e2 w9 ⟨rfl, rfl⟩
                  simp only [r4V]
                  go_wp2_with (first
                    | (with_reducible refine wpList_build rfl 25 [] rfl [] (.agg zlTx.toArray) rfl (tx_build0 _) ?_)
                    | ((with_reducible refine wpList_store_whole rfl 25 (.tmp 2) (.tmp 95) rfl w.heap.size zlTx zlTx 25 rfl rfl hzr rfl zlTx_info zlTx_one ?_); intro wz hUz))
                  rw [HF.out]
                  exact post_cell_tmp 2 3 25 rfl w.heap.size _ zlTx _ _ hUz.out.at_ Tryd.underlying25 rfl zlTx_info (.int .i64 e) rfl rfl rfl ⟨rfl, hUz.out.below HBW.out (Nat.le_refl _)⟩
                | ok n =>
                  have HJ5 : Hid (rdNs 0 b = joinN (ns ++ [(n : Int)]) (rdNs (k + 1) (b.drop (k + 1)))) := show _ = _ from HJ.out.trans (joinN_ok hkb h4 hN)
                  have HNL : Hid ((0 : Int) ≤ n ∧ (n : Int) ≤ 9223372036854775807) := show _ ∧ _ from by have := rdNum_le hN; omega
                  rw [hN] at HNU
                  clear hN h4
                  go_wp2_with fail
                  refine (HNU.out _).mono ?_
                  rintro e2 w9 ⟨rfl, rfl⟩
                  simp only [r4V]
                  go_wp2_with ((at_builtin; refine wpList_app1 rfl (.tmp 97) (.tmp 99) 59 3 rfl Tryd.underlying59 _ int_info (.int .i64 0) rfl rfl rfl 8 rfl w3.heap.size _ k _ rfl HO.out (.int .i64 n) rfl rfl 3 (by omega) (by omega) w3 HBR.out HBR.out.size (Nat.le_refl _) ?_); intro v4 w4 hO4 hB4)
                  go_roundw
                  case rel => exact ⟨k + 1, ns ++ [(n : Int)], by omega, by go_num, ⟨by rw [List.length_append, HNS.out.1]; rfl, fun m hm => (List.mem_append.1 hm).elim (HNS.out.2 m) (fun h => by rw [List.mem_singleton.1 h]; exact HNL.out)⟩, hB4, show World.ownsRow _ _ _ _ _ _ _ from by rw [nums64_app]; exact hO4.out, HJ5⟩
                  case measure => simp [intOf]; omega
            · obtain rfl : k = 5 := by omega
              obtain ⟨n0, n1, n2, n3, n4, rfl⟩ : ∃ n0 n1 n2 n3 n4, ns = [n0, n1, n2, n3, n4] := by
                match ns, HNS.out.1 with
                | [a0, a1, a2, a3, a4], _ => exact ⟨_, _, _, _, _, rfl⟩
              have HNN : Hid (rdNs 0 b = .ok [n0, n1, n2, n3, n4]) := show _ = _ from HJ.out.trans (joinN_end (by omega))
              obtain ⟨T, hT⟩ : ∃ T, T = (⟨n0, n1, n2, n3, d, false, 0, 0, z32, y.data.toList⟩ : TX) := ⟨_, rfl⟩
              obtain ⟨A, hA⟩ : ∃ A, A = (⟨n0, n1, n2, n3, d, false, 0, 0, z32, y.data.toList⟩ : TX) := ⟨_, rfl⟩
              have HF : Hid (R = rdEnd T) := show _ = _ by rw [HRD.out, rdBody, rdNums_ns, HNN.out, hT]; rfl
              have HNI : Hid (∀ n ∈ [n0, n1, n2, n3, n4], i64ok n) := show ∀ n ∈ _, _ from fun n hn => by have h := HNS.out.2 n hn; exact ⟨by omega, h.2⟩
              have HAW : Hid A.wf := show _ from by rw [hA]; exact ⟨HNI.out _ (by simp), HNI.out _ (by simp), HNI.out _ (by simp), HNI.out _ (by simp), Nat.le_trans HDS.out (by decide), i64_zero, i64_zero, z32_length, HY.out⟩
              have HTA : Hid (T = A) := show _ = _ by rw [hT, hA]
              have HBD : Hid (∀ w, (Instr.build 25 #[(0, .int .i64 n0), (1, .int .i64 n1), (2, .int .i64 n2), (3, .int .i64 n3), (4, .string d), (9, .agg (u8s y.data.toList).toArray)]).run Tryd.prog w = .ok (.agg A.cells.toArray) w) := show ∀ w, _ from fun w => by rw [hA]; exact tx_build6 n0 n1 n2 n3 d HY.out w
              obtain ⟨gn, cn, rfl, hgn, hgn2, hcn⟩ := own_view1 HO.out (by omega)
              have KEEP : Hid (∀ W', Below wr.heap.size wr W' → (W'.cell? ⟨gn, 0, none⟩ = some (.int .i64 n0) ∧ W'.cell? ⟨gn, 1, none⟩ = some (.int .i64 n1) ∧ W'.cell? ⟨gn, 2, none⟩ = some (.int .i64 n2) ∧ W'.cell? ⟨gn, 3, none⟩ = some (.int .i64 n3) ∧ W'.cell? ⟨g3, 4, none⟩ = some (.string d) ∧ W'.cell? ⟨g, 1, none⟩ = some (.string y))) := show ∀ W', _ from fun W' hb => ⟨(hb.cell (p := ⟨gn, 0, none⟩) hgn2).trans (hcn 0 _ rfl), (hb.cell (p := ⟨gn, 1, none⟩) hgn2).trans (hcn 1 _ rfl), (hb.cell (p := ⟨gn, 2, none⟩) hgn2).trans (hcn 2 _ rfl), (hb.cell (p := ⟨gn, 3, none⟩) hgn2).trans (hcn 3 _ rfl), (hb.cell (p := ⟨g3, 4, none⟩) (Nat.lt_of_lt_of_le HG2.out.2 HBR.out.size)).trans ((HBR.out.cell (p := ⟨g3, 4, none⟩) HG2.out.2).trans HD4.out), (hb.cell (p := ⟨g, 1, none⟩) (Nat.lt_of_lt_of_le HG2.out.1 HBR.out.size)).trans ((HBR.out.cell (p := ⟨g, 1, none⟩) HG2.out.1).trans HC1.out)⟩
              have hzr := keep_row2 HBR.out hz3
              have HBW := Lib.hid (HB3.out.trans (HBR.out.mono HB3.out.size))
              have HGN : Hid (gn < wr.heap.size ∧ g < wr.heap.size) := show _ ∧ _ from ⟨hgn2, Nat.lt_of_lt_of_le HG2.out.1 HBR.out.size⟩
              clear hT hA hgn hgn2 hcn hz3 hlt
              go_wp2_with fail
              go_cut [12] (fun p wx => ∃ tb, p = .pointer (some ⟨tb, 0, none⟩) ∧ wr.heap.size ≤ tb ∧ Hid (Below wr.heap.size wr wx) ∧ Hid (wx.heap[tb]? = some (.cells A.cells.toArray 25 (0, 0))))
              case first =>
                have hBd : Below wr.heap.size wr wr.drew := (Below.refl _ _).drew
                refine wp_region_held_drew (S := fun W' => W'.cell? ⟨gn, 0, none⟩ = some (.int .i64 n0) ∧ W'.cell? ⟨gn, 1, none⟩ = some (.int .i64 n1) ∧ W'.cell? ⟨gn, 2, none⟩ = some (.int .i64 n2) ∧ W'.cell? ⟨gn, 3, none⟩ = some (.int .i64 n3) ∧ W'.cell? ⟨g3, 4, none⟩ = some (.string d) ∧ W'.cell? ⟨g, 1, none⟩ = some (.string y)) (by kernel_rfl) (KEEP.out _ hBd) (fun hHeld => ?_)
                refine rg_gen (i := 0) (v := ?_) rfl (by kernel_rfl) (by kernel_rfl) (by kernel_rfl) (fun _ _ _ h => h) rfl (by rfl) ?_ (by assumption) ?_
                rotate_left
                · intro w hSw
                  try dsimp only at hSw
                  go_simp
                  try with_reducible rfl
                try simp only [Act.put, List.setIfInBounds_toArray, List.set_cons_zero, List.set_cons_succ]
                refine rg_gen (i := 1) (v := ?_) rfl (by kernel_rfl) (by kernel_rfl) (by kernel_rfl) (fun _ _ _ h => h) rfl (by rfl) ?_ (by assumption) ?_
                rotate_left
                · intro w hSw
                  try dsimp only at hSw
                  go_simp
                  try with_reducible rfl
                try simp only [Act.put, List.setIfInBounds_toArray, List.set_cons_zero, List.set_cons_succ]
                refine rg_gen (i := 2) (v := ?_) rfl (by kernel_rfl) (by kernel_rfl) (by kernel_rfl) (fun _ _ _ h => h) rfl (by rfl) ?_ (by assumption) ?_
                rotate_left
                · intro w hSw
                  try dsimp only at hSw
                  go_simp
                  try with_reducible rfl
                try simp only [Act.put, List.setIfInBounds_toArray, List.set_cons_zero, List.set_cons_succ]
                refine rg_gen (i := 3) (v := ?_) rfl (by kernel_rfl) (by kernel_rfl) (by kernel_rfl) (fun _ _ _ h => h) rfl (by rfl) ?_ (by assumption) ?_
                rotate_left
                · intro w hSw
                  try dsimp only at hSw
                  go_simp
                  try with_reducible rfl
                try simp only [Act.put, List.setIfInBounds_toArray, List.set_cons_zero, List.set_cons_succ]
                refine rg_gen (i := 4) (v := ?_) rfl (by kernel_rfl) (by kernel_rfl) (by kernel_rfl) (fun _ _ _ h => h) rfl (by rfl) ?_ (by assumption) ?_
                rotate_left
                · intro w hSw
                  try dsimp only at hSw
                  go_simp
                  try with_reducible rfl
                try simp only [Act.put, List.setIfInBounds_toArray, List.set_cons_zero, List.set_cons_succ]
                refine rg_gen (i := 5) (v := ?_) rfl (by kernel_rfl) (by kernel_rfl) (by kernel_rfl) (fun _ _ _ h => h) rfl (by rfl) ?_ (by assumption) ?_
                rotate_left
                · intro w hSw
                  try dsimp only at hSw
                  go_simp
                  try with_reducible rfl
                try simp only [Act.put, List.setIfInBounds_toArray, List.set_cons_zero, List.set_cons_succ]
                refine rg_gen (i := 6) (v := ?_) rfl (by kernel_rfl) (by kernel_rfl) (by kernel_rfl) (fun _ _ _ h => h) rfl (by rfl) ?_ (by assumption) ?_
                rotate_left
                · intro w hSw
                  try dsimp only at hSw
                  go_simp
                  try with_reducible rfl
                try simp only [Act.put, List.setIfInBounds_toArray, List.set_cons_zero, List.set_cons_succ]
                refine rg_gen (i := 7) (v := ?_) rfl (by kernel_rfl) (by kernel_rfl) (by kernel_rfl) (fun _ _ _ h => h) rfl (by rfl) ?_ (by assumption) ?_
                rotate_left
                · intro w hSw
                  try dsimp only at hSw
                  go_simp
                  try with_reducible rfl
                try simp only [Act.put, List.setIfInBounds_toArray, List.set_cons_zero, List.set_cons_succ]
                refine rg_gen (i := 8) (v := ?_) rfl (by kernel_rfl) (by kernel_rfl) (by kernel_rfl) (fun _ _ _ h => h) rfl (by rfl) ?_ (by assumption) ?_
                rotate_left
                · intro w hSw
                  try dsimp only at hSw
                  go_simp
                  try with_reducible rfl
                try simp only [Act.put, List.setIfInBounds_toArray, List.set_cons_zero, List.set_cons_succ]
                refine rg_gen (i := 9) (v := ?_) rfl (by kernel_rfl) (by kernel_rfl) (by kernel_rfl) (fun _ _ _ h => h) rfl (by rfl) ?_ (by assumption) ?_
                rotate_left
                · intro w hSw
                  try dsimp only at hSw
                  go_simp
                  try with_reducible rfl
                try simp only [Act.put, List.setIfInBounds_toArray, List.set_cons_zero, List.set_cons_succ]
                refine rg_gen (i := 10) (v := ?_) rfl (by kernel_rfl) (by kernel_rfl) (by kernel_rfl) (fun _ _ _ h => h) rfl (by rfl) ?_ (by assumption) ?_
                rotate_left
                · intro w hSw
                  try dsimp only at hSw
                  go_simp
                  try with_reducible rfl
                try simp only [Act.put, List.setIfInBounds_toArray, List.set_cons_zero, List.set_cons_succ]
                refine rg_gen (i := 11) (v := ?_) rfl (by kernel_rfl) (by kernel_rfl) (by kernel_rfl) (fun _ _ _ h => h) rfl (by rfl) ?_ (by assumption) ?_
                rotate_left
                · intro w hSw
                  try dsimp only at hSw
                  go_simp
                  try with_reducible rfl
                try simp only [Act.put, List.setIfInBounds_toArray, List.set_cons_zero, List.set_cons_succ]
                refine rg_gen (i := 12) (v := ?_) rfl (by kernel_rfl) (by kernel_rfl) (by kernel_rfl) (fun _ _ _ h => h) rfl (by rfl) ?_ (by assumption) ?_
                rotate_left
                · intro w hSw
                  try dsimp only at hSw
                  go_simp
                  try with_reducible rfl
                try simp only [Act.put, List.setIfInBounds_toArray, List.set_cons_zero, List.set_cons_succ]
                refine rg_gen (i := 13) (v := ?_) rfl (by kernel_rfl) (by kernel_rfl) (by kernel_rfl) (fun _ _ _ h => h) rfl (by rfl) ?_ (by assumption) ?_
                rotate_left
                · intro w hSw
                  try dsimp only at hSw
                  go_simp
                  try with_reducible rfl
                try simp only [Act.put, List.setIfInBounds_toArray, List.set_cons_zero, List.set_cons_succ]
                refine rg_gen (i := 14) (v := ?_) rfl (by kernel_rfl) (by kernel_rfl) (by kernel_rfl) (fun _ _ _ h => h) rfl (by rfl) ?_ (by assumption) ?_
                rotate_left
                · intro w hSw
                  try dsimp only at hSw
                  go_simp
                  try with_reducible rfl
                try simp only [Act.put, List.setIfInBounds_toArray, List.set_cons_zero, List.set_cons_succ]
                refine rg_gen (i := 15) (v := ?_) rfl (by kernel_rfl) (by kernel_rfl) (by kernel_rfl) (fun _ _ _ h => h) rfl (by rfl) ?_ (by assumption) ?_
                rotate_left
                · intro w hSw
                  try dsimp only at hSw
                  go_simp
                  try with_reducible rfl
                try simp only [Act.put, List.setIfInBounds_toArray, List.set_cons_zero, List.set_cons_succ]
                refine rg_gen (i := 16) (v := ?_) rfl (by kernel_rfl) (by kernel_rfl) (by kernel_rfl) (fun _ _ _ h => h) rfl (by rfl) ?_ (by assumption) ?_
                rotate_left
                · intro w hSw
                  try dsimp only at hSw
                  go_simp
                  try with_reducible rfl
                try simp only [Act.put, List.setIfInBounds_toArray, List.set_cons_zero, List.set_cons_succ]
                refine rg_gen (i := 17) (v := ?_) rfl (by kernel_rfl) (by kernel_rfl) (by kernel_rfl) (fun _ _ _ h => h) rfl (by rfl) ?_ (by assumption) ?_
                rotate_left
                · intro w hSw
                  try dsimp only at hSw
                  go_simp
                  try with_reducible rfl
                try simp only [Act.put, List.setIfInBounds_toArray, List.set_cons_zero, List.set_cons_succ]
                have hyy := HY.out
                refine wpAnyH_ready (rs := [18, 20]) (by kernel_rfl) (by simp) ?_
                refine AllReadyH.cons rfl (fun K hK => ?_) (AllReadyH.cons rfl (fun K hK => ?_) AllReadyH.nil)
                · go_simp
                  go_at_call 84
                  refine (r4hash_any y _ hyy).mono ?_
                  rintro e w5 ⟨rfl, hb5⟩
                  have hB5 : Below wr.heap.size wr w5 := bw_call hBd hb5
                  go_wp2_with fail
                  refine hK.out _ _ (KEEP.out _ hB5) (fun hHeld1 => ?_)
                  clear hK K
                  try simp only [Act.put, List.setIfInBounds_toArray, List.set_cons_zero, List.set_cons_succ]
                  refine rg_build (i := 19) rfl (by kernel_rfl) (by kernel_rfl) (by kernel_rfl) (fun _ _ _ h => h) rfl (by rfl) 25 [(0, .tmp 103), (1, .tmp 106), (2, .tmp 109), (3, .tmp 112), (4, .tmp 115), (9, .tmp 119)] rfl [(0, .int .i64 n0), (1, .int .i64 n1), (2, .int .i64 n2), (3, .int .i64 n3), (4, .string d), (9, .agg (u8s y.data.toList).toArray)] rfl HBD.out (by assumption) ?_
                  try simp only [Act.put, List.setIfInBounds_toArray, List.set_cons_zero, List.set_cons_succ]
                  refine rg_one (i := 20) (by kernel_rfl) rfl (fun K hK => ?_)
                  refine rg_step (s := Instr.alloc 25 true (.tuple #[])) (by rfl) rfl rfl (tx_alloc w5) ?_
                  have hB6 : Below wr.heap.size wr (w5.alloc (.cells zlTx.toArray 25)) := bw_alloc hB5 _
                  refine hK.out _ _ (KEEP.out _ hB6) (fun hHeld2 => ?_)
                  clear hK K
                  try simp only [Act.put, List.setIfInBounds_toArray, List.set_cons_zero, List.set_cons_succ]
                  refine rg_one (i := 21) (by kernel_rfl) rfl (fun K hK => ?_)
                  refine rg_store (by rfl) rfl 25 (.tmp 12) (.tmp 120) rfl w5.heap.size A.cells zlTx 25 rfl rfl (heap_alloc_new w5 _) (A.cells_length HAW.out.by_ HAW.out.tag) (tx_info HAW.out) (start_one _) (fun W5 hU => ?_)
                  have hB7 := hU.below hB6 hB5.size
                  refine hK.out _ _ (KEEP.out _ hB7) (fun hHeld3 => ?_)
                  clear hK K
                  refine wpAnyH_done (by kernel_rfl) ?_ _
                  go_wp2_with fail
                  go_meet
                  case rel => exact ⟨w5.heap.size, rfl, hB5.size, hB7, hU.at_⟩
                · refine rg_step (s := Instr.alloc 25 true (.tuple #[])) (by rfl) rfl rfl (tx_alloc wr.drew) ?_
                  have hB6 : Below wr.heap.size wr (wr.drew.alloc (.cells zlTx.toArray 25)) := bw_alloc hBd _
                  have hz6 : (wr.drew.alloc (.cells zlTx.toArray 25)).heap[wr.heap.size]? = some (.cells zlTx.toArray 25 (0, 0)) := heap_alloc_new wr.drew _
                  refine hK.out _ _ (KEEP.out _ hB6) (fun hHeld2 => ?_)
                  clear hK K
                  try simp only [Act.put, List.setIfInBounds_toArray, List.set_cons_zero, List.set_cons_succ]
                  refine rg_one (i := 18) (by kernel_rfl) rfl (fun K hK => ?_)
                  go_simp
                  go_at_call 84
                  refine (r4hash_any y _ hyy).mono ?_
                  rintro e w5 ⟨rfl, hb5⟩
                  have hB5 : Below wr.heap.size wr w5 := bw_call hB6 hb5
                  have hz5 := keep_row2 hb5 hz6
                  go_wp2_with fail
                  refine hK.out _ _ (KEEP.out _ hB5) (fun hHeld1 => ?_)
                  clear hK K
                  try simp only [Act.put, List.setIfInBounds_toArray, List.set_cons_zero, List.set_cons_succ]
                  refine rg_build (i := 19) rfl (by kernel_rfl) (by kernel_rfl) (by kernel_rfl) (fun _ _ _ h => h) rfl (by rfl) 25 [(0, .tmp 103), (1, .tmp 106), (2, .tmp 109), (3, .tmp 112), (4, .tmp 115), (9, .tmp 119)] rfl [(0, .int .i64 n0), (1, .int .i64 n1), (2, .int .i64 n2), (3, .int .i64 n3), (4, .string d), (9, .agg (u8s y.data.toList).toArray)] rfl HBD.out (by assumption) ?_
                  try simp only [Act.put, List.setIfInBounds_toArray, List.set_cons_zero, List.set_cons_succ]
                  refine rg_one (i := 21) (by kernel_rfl) rfl (fun K hK => ?_)
                  refine rg_store (by rfl) rfl 25 (.tmp 12) (.tmp 120) rfl wr.heap.size A.cells zlTx 25 rfl rfl hz5 (A.cells_length HAW.out.by_ HAW.out.tag) (tx_info HAW.out) (start_one _) (fun W5 hU => ?_)
                  have hB7 := hU.below hB5 (Nat.le_refl _)
                  refine hK.out _ _ (KEEP.out _ hB7) (fun hHeld3 => ?_)
                  clear hK K
                  refine wpAnyH_done (by kernel_rfl) ?_ _
                  go_wp2_with fail
                  go_meet
                  case rel => exact ⟨wr.heap.size, rfl, Nat.le_refl _, hB7, hU.at_⟩
              case rest =>
                obtain ⟨tb, rfl, htb, HB7, HT7⟩ := hcut
                have hz7 := keep_row2 HB7.out hzr
                have HBX := Lib.hid (HBW.out.trans (HB7.out.mono HBW.out.size))
                have hwt : w.heap.size ≤ tb := Nat.le_trans HBW.out.size htb
                have hnt : w.heap.size ≠ tb := fun h => by have := block_lt hzr; omega
                have hT12 := HT7.out
                have hz12 := hz7
                have HTW : Hid T.wf := show _ from by rw [HTA.out]; exact HAW.out
                rw [← HTA.out] at hT12
                have HB12 := HBX
                clear hz7 hzr hnt hwt htb HT7
                go_wp2_with (with_reducible refine wpList_load_rows rfl 25 (.tmp 12) rfl tb 0 T.cells T.cells 25 (0, 0) _ rfl hT12 id_at Tryd.underlying25 rfl (tx_info HTW.out) ?_)
                refine (rcheck_any T _ HTW.out).mono ?_
                rintro e w13 ⟨rfl, hb13⟩
                have hT13 := keep_row2 hb13 hT12
                have hz13 := keep_row2 hb13 hz12
                have HB13 := Lib.hid (bw_call HB12.out hb13)
                have HTL : Hid (T.cells.length = zlTx.length) := show _ = _ from T.cells_length HTW.out.by_ HTW.out.tag
                obtain ⟨ck, hck⟩ : ∃ c, c = T.chk := ⟨_, rfl⟩
                rw [← hck]
                have HCK := Lib.hid hck
                clear hb13 hT12 hz12 hck
                by_cases hc0 : ck = 0
                · subst hc0
                  have HE : Hid (R = .ok T) := show _ = _ by rw [HF.out, rdEnd, if_pos HCK.out.symm]
                  go_wp2_with (first
                    | (with_reducible refine wpList_load_rows rfl 25 (.tmp 12) rfl tb 0 T.cells T.cells 25 (0, 0) _ rfl hT13 id_at Tryd.underlying25 rfl (tx_info HTW.out) ?_)
                    | ((with_reducible refine wpList_store_whole rfl 25 (.tmp 2) (.tmp 144) rfl w.heap.size T.cells zlTx 25 rfl rfl hz13 HTL.out (tx_info HTW.out) (start_one _) ?_); intro w14 hU14))
                  rw [HE.out]
                  exact post_cell_tmp 2 3 25 rfl w.heap.size _ T.cells _ _ hU14.out.at_ Tryd.underlying25 rfl (tx_info HTW.out) (.int .i64 0) rfl rfl rfl ⟨rfl, hU14.out.below HB13.out (Nat.le_refl _)⟩
                · have hd0 : (ck != 0) = true := by simpa using hc0
                  have HE : Hid (R = .error ck) := show _ = _ by rw [HF.out, rdEnd, if_neg (by rw [← HCK.out]; exact hc0), HCK.out]
                  clear hc0
                  go_wp2_with (first
                    | (with_reducible refine wpList_build rfl 25 [] rfl [] (.agg zlTx.toArray) rfl (tx_build0 _) ?_)
                    | ((with_reducible refine wpList_store_whole rfl 25 (.tmp 2) (.tmp 142) rfl w.heap.size zlTx zlTx 25 rfl rfl hz13 rfl zlTx_info zlTx_one ?_); intro wz hUz))
                  rw [HE.out]
                  exact post_cell_tmp 2 3 25 rfl w.heap.size _ zlTx _ _ hUz.out.at_ Tryd.underlying25 rfl zlTx_info (.int .i64 ck) rfl rfl rfl ⟨rfl, hUz.out.below HB13.out (Nat.le_refl _)⟩
        · have HF : Hid (R = .error 6) := show _ = _ by rw [HRP.out, rdParts, hr2]; simp [hbl]
          obtain ⟨mb, hmb⟩ : ∃ m, m = b.length := ⟨_, rfl⟩
          rw [← hmb] at ho3 hbl
          obtain ⟨q3, c3, rfl⟩ := own_head ho3
          have hd : ((mb : Int) != 5) = true := by rw [bne_iff_ne]; omega
          clear hr2 hb3 hz1 ho3 hmb hbl
          go_wp2_with (first
            | (with_reducible refine wpList_build rfl 25 [] rfl [] (.agg zlTx.toArray) rfl (tx_build0 _) ?_)
            | ((with_reducible refine wpList_store_whole rfl 25 (.tmp 2) (.tmp 73) rfl w.heap.size zlTx zlTx 25 rfl rfl hz3 rfl zlTx_info zlTx_one ?_); intro wz hUz))
          rw [HF.out]
          exact post_cell_tmp 2 3 25 rfl w.heap.size _ zlTx _ _ hUz.out.at_ Tryd.underlying25 rfl zlTx_info (.int .i64 6) rfl rfl rfl ⟨rfl, hUz.out.below HB3.out (Nat.le_refl _)⟩
theorem rread_3 (s : ByteArray) (w : World) (hs : s.size ≤ 140737488355328) {x y z : ByteArray} (hr : rdAll s = .ok [x, y, z]) (R : Except Int TX) (hR : R = if y.size = 32 ∧ z.size = 32 then rdParts x y (some z) else .error 6) :
    Calls Tryd.prog 43 #[.string s] w (rdPost w R) := by
  have HC := r4list_any s
  rw [hr] at HC
  have HSZ := Lib.hid (rdAll_sizes hr)
  have HR := Lib.hid hR
  have hz0 : (w.alloc (.cells zlTx.toArray 25)).heap[w.heap.size]? = some (.cells zlTx.toArray 25 (0, 0)) := heap_alloc_new _ _
  clear hr hR
  go_enter Tryd.func43, Tryd.ntmps43
  go_wp2_with fail
  refine (HC _ hs).mono ?_
  rintro e w1 ⟨hb, v, rfl, ho⟩
  obtain ⟨g, c, rfl, hg, hg2, hc⟩ := own_view ho (by simp)
  have hc0 : w1.cell? ⟨g, 0, none⟩ = some (.string x) := hc 0 (by simp)
  have hc1 : w1.cell? ⟨g, 1, none⟩ = some (.string y) := hc 1 (by simp)
  have hc2 : w1.cell? ⟨g, 2, none⟩ = some (.string z) := hc 2 (by simp)
  have hz1 := (hb.block w.heap.size (by simp)).trans hz0
  have HB := Lib.hid (bw_call (bw_alloc (Below.refl w.heap.size w) (.cells zlTx.toArray 25)) hb)
  clear hb hz0 ho hc HC
  go_wp2_with fail
  go_loopw [6] (fun i wr => (i = .int .i64 1 ∨ (i = .int .i64 2 ∧ y.size = 32) ∨ (i = .int .i64 3 ∧ y.size = 32 ∧ z.size = 32)) ∧ wr = w1) (fun i _ => 4 - (intOf i).toNat)
  case atStart => exact ⟨.inl rfl, rfl⟩
  case round =>
    obtain ⟨hcase, rfl⟩ := hrel
    rcases hcase with rfl | ⟨rfl, hy⟩ | ⟨rfl, hy, hzz⟩
    · by_cases hq : y.size = 32
      · have hd : ((y.size : Int) != 32) = false := by rw [hq]; rfl
        go_wp2_with fail
        go_roundw
        case rel => exact ⟨.inr (.inl ⟨rfl, hq⟩), trivial⟩
        case measure => simp [intOf]
      · have hd : ((y.size : Int) != 32) = true := by rw [bne_iff_ne]; omega
        have HF : Hid (R = .error 6) := show _ = _ by rw [HR.out, if_neg (fun h => hq h.1)]
        clear hq
        go_wp2_with (first
          | (with_reducible refine wpList_build rfl 25 [] rfl [] (.agg zlTx.toArray) rfl (tx_build0 _) ?_)
          | ((with_reducible refine wpList_store_whole rfl 25 (.tmp 2) (.tmp 43) rfl w.heap.size zlTx zlTx 25 rfl rfl hz1 rfl zlTx_info zlTx_one ?_); intro wz hUz))
        rw [HF.out]
        exact post_cell_tmp 2 3 25 rfl w.heap.size _ zlTx _ _ hUz.out.at_ Tryd.underlying25 rfl zlTx_info (.int .i64 6) rfl rfl rfl ⟨rfl, hUz.out.below HB.out (Nat.le_refl _)⟩
    · by_cases hq : z.size = 32
      · have hd : ((z.size : Int) != 32) = false := by rw [hq]; rfl
        go_wp2_with fail
        go_roundw
        case rel => exact ⟨.inr (.inr ⟨rfl, hy, hq⟩), trivial⟩
        case measure => simp [intOf]
      · have hd : ((z.size : Int) != 32) = true := by rw [bne_iff_ne]; omega
        have HF : Hid (R = .error 6) := show _ = _ by rw [HR.out, if_neg (fun h => hq h.2)]
        clear hq
        go_wp2_with (first
          | (with_reducible refine wpList_build rfl 25 [] rfl [] (.agg zlTx.toArray) rfl (tx_build0 _) ?_)
          | ((with_reducible refine wpList_store_whole rfl 25 (.tmp 2) (.tmp 43) rfl w.heap.size zlTx zlTx 25 rfl rfl hz1 rfl zlTx_info zlTx_one ?_); intro wz hUz))
        rw [HF.out]
        exact post_cell_tmp 2 3 25 rfl w.heap.size _ zlTx _ _ hUz.out.at_ Tryd.underlying25 rfl zlTx_info (.int .i64 6) rfl rfl rfl ⟨rfl, hUz.out.below HB.out (Nat.le_refl _)⟩
    · have HRP : Hid (R = rdParts x y (some z)) := show _ = _ by rw [HR.out, if_pos ⟨hy, hzz⟩]
      have HY := Lib.hid hy
      have HZ := Lib.hid hzz
      have hx : x.size ≤ 140737488355328 := Nat.le_trans (HSZ.out x (by simp)) (by decide)
      have HC2 := Lib.hid (r4list_any x)
      clear hy hzz HR
      go_wp2_with fail
      refine (HC2.out _ hx).mono ?_
      rintro e w3 ⟨hb3, hq3⟩
      have hz3 := keep_row2 hb3 hz1
      have HB3 := Lib.hid (bw_call HB.out hb3)
      cases hr2 : rdAll x with
      | error k =>
        rw [hr2] at hq3
        obtain ⟨v3, rfl⟩ := hq3
        have hx0 := rdAll_err hr2
        have HF : Hid (R = .error k) := show _ = _ by rw [HRP.out, rdParts, hr2]
        clear hr2 hb3 hz1
        go_wp2_with (first
          | (with_reducible refine wpList_build rfl 25 [] rfl [] (.agg zlTx.toArray) rfl (tx_build0 _) ?_)
          | ((with_reducible refine wpList_store_whole rfl 25 (.tmp 2) (.tmp 53) rfl w.heap.size zlTx zlTx 25 rfl rfl hz3 rfl zlTx_info zlTx_one ?_); intro wz hUz))
        rw [HF.out]
        exact post_cell_tmp 2 3 25 rfl w.heap.size _ zlTx _ _ hUz.out.at_ Tryd.underlying25 rfl zlTx_info (.int .i64 k) rfl rfl rfl ⟨rfl, hUz.out.below HB3.out (Nat.le_refl _)⟩
      | ok b =>
        rw [hr2] at hq3
        obtain ⟨v3, rfl, ho3⟩ := hq3
        by_cases hbl : b.length = 7
        · have HRD : Hid (R = rdBody b (TX.start (b.getD 4 ByteArray.empty) true y.data.toList) z.data.toList) := show _ = _ by rw [HRP.out, rdParts, hr2]; simp [hbl]
          have HBS := Lib.hid (rdAll_sizes hr2)
          obtain ⟨d, hd⟩ : ∃ d, d = b.getD 4 ByteArray.empty := ⟨_, rfl⟩
          rw [← hd] at HRD
          have hd4 : b[4]? = some d := by rw [hd, List.getD_eq_getElem?_getD, List.getElem?_eq_getElem (by omega)]; rfl
          obtain ⟨g3, c3, rfl, hg3, hg4, hc3⟩ := own_view ho3 (by omega)
          have HD4 : Hid (w3.cell? ⟨g3, 4, none⟩ = some (.string d)) := show _ = _ by rw [hc3 4 (by omega)]; rw [List.getElem?_eq_getElem (by omega)] at hd4; injection hd4 with hd4; rw [hd4]
          have HDS : Hid (d.size ≤ 65536) := show _ ≤ _ from HBS.out d (List.mem_of_getElem? hd4)
          have HC1 : Hid (w3.cell? ⟨g, 1, none⟩ = some (.string y)) := show _ = _ from (hb3.cell (p := ⟨g, 1, none⟩) hg2).trans hc1
          have HC2 : Hid (w3.cell? ⟨g, 2, none⟩ = some (.string z)) := show _ = _ from (hb3.cell (p := ⟨g, 2, none⟩) hg2).trans hc2
          have HO3 := Lib.hid hc3
          have HG2 : Hid (g < w3.heap.size ∧ g3 < w3.heap.size) := show _ ∧ _ from ⟨Nat.lt_of_lt_of_le hg2 hb3.size, hg4⟩
          rw [hbl]
          clear hb3 hz1 hc0 hc1 hc2 ho3 hc3 hd hd4 hr2 hg hg2 hg3 hg4
          go_wp2_with fail
          go_loopw [8, 9] (fun o i wr => ∃ (k : Nat) (ns : List Int), k ≤ 7 ∧ i = .int .i64 k ∧ Hid (ns.length = k ∧ ∀ n ∈ ns, 0 ≤ n ∧ n ≤ 9223372036854775807) ∧ Hid (Below w3.heap.size w3 wr) ∧ Hid (wr.ownsRow w3.heap.size 3 1 o k (nums64 ns)) ∧ Hid (rdNs 0 b = joinN ns (rdNs k (b.drop k)))) (fun _ i _ => 7 - (intOf i).toNat)
          case atStart => exact ⟨0, [], by omega, rfl, ⟨rfl, by simp⟩, Below.refl _ _, own_nil _ _ _ _, show _ = _ from by rw [List.drop_zero]; cases rdNs 0 b <;> rfl⟩
          case round =>
            obtain ⟨k, ns, hk, rfl, HNS, HBR, HO, HJ⟩ := hrel
            by_cases hlt : k < 7
            · have hkb : k < b.length := by omega
              by_cases h4 : k = 4
              · subst h4
                have HJ5 : Hid (rdNs 0 b = joinN (ns ++ [0]) (rdNs 5 (b.drop 5))) := show _ = _ from HJ.out.trans (joinN_skip hkb)
                go_wp2_with ((at_builtin; refine wpList_app1 rfl (.tmp 82) (.tmp 83) 59 3 rfl Tryd.underlying59 _ int_info (.int .i64 0) rfl rfl rfl 8 rfl w3.heap.size _ 4 _ rfl HO.out (.int .i64 0) rfl rfl 3 (by omega) (by omega) w3 HBR.out HBR.out.size (Nat.le_refl _) ?_); intro v4 w4 hO4 hB4)
                go_roundw
                case rel => exact ⟨5, ns ++ [0], by omega, by go_num, ⟨by rw [List.length_append, HNS.out.1]; rfl, fun n hn => (List.mem_append.1 hn).elim (HNS.out.2 n) (fun h => by rw [List.mem_singleton.1 h]; decide)⟩, hB4, show World.ownsRow _ _ _ _ _ _ _ from by rw [nums64_app]; exact hO4.out, HJ5⟩
                case measure => simp [intOf]
              · have hd4 : ((k : Int) == 4) = false := by rw [beq_eq_false_iff_ne]; omega
                have hcb := (HBR.out.cell (p := ⟨g3, k, none⟩) HG2.out.2).trans (HO3.out k hkb)
                have hxs : (b[k]'hkb).size ≤ 140737488355328 := Nat.le_trans (HBS.out _ (List.getElem_mem hkb)) (by decide)
                have HNU := Lib.hid (fun w => r4num_any (b[k]'hkb) w hxs)
                have f0 : (0 : Int) ≤ k := by omega
                have f1 : (k : Int) < 7 := by omega
                cases hN : rdNum (b[k]'hkb) with
                | error e =>
                  have hx0 := rdNum_err2 hN
                  have HF : Hid (R = .error e) := show _ = _ by rw [HRD.out, rdBody, rdNums_ns, HJ.out, joinN_err hkb h4 hN]
                  have hzr := keep_row2 HBR.out hz3
                  have HBW := Lib.hid (HB3.out.trans (HBR.out.mono HB3.out.size))
                  rw [hN] at HNU
                  clear hN h4
                  go_wp2_with fail
                  refine (HNU.out _).mono ?_
                  rintro e2 w9 ⟨rfl, rfl⟩
                  simp only [r4V]
                  go_wp2_with (first
                    | (with_reducible refine wpList_build rfl 25 [] rfl [] (.agg zlTx.toArray) rfl (tx_build0 _) ?_)
                    | ((with_reducible refine wpList_store_whole rfl 25 (.tmp 2) (.tmp 95) rfl w.heap.size zlTx zlTx 25 rfl rfl hzr rfl zlTx_info zlTx_one ?_); intro wz hUz))
                  rw [HF.out]
                  exact post_cell_tmp 2 3 25 rfl w.heap.size _ zlTx _ _ hUz.out.at_ Tryd.underlying25 rfl zlTx_info (.int .i64 e) rfl rfl rfl ⟨rfl, hUz.out.below HBW.out (Nat.le_refl _)⟩
                | ok n =>
                  have HJ5 : Hid (rdNs 0 b = joinN (ns ++ [(n : Int)]) (rdNs (k + 1) (b.drop (k + 1)))) := show _ = _ from HJ.out.trans (joinN_ok hkb h4 hN)
                  have HNL : Hid ((0 : Int) ≤ n ∧ (n : Int) ≤ 9223372036854775807) := show _ ∧ _ from by have := rdNum_le hN; omega
                  rw [hN] at HNU
                  clear hN h4
                  go_wp2_with fail
                  refine (HNU.out _).mono ?_
                  rintro e2 w9 ⟨rfl, rfl⟩
                  simp only [r4V]
                  go_wp2_with ((at_builtin; refine wpList_app1 rfl (.tmp 97) (.tmp 99) 59 3 rfl Tryd.underlying59 _ int_info (.int .i64 0) rfl rfl rfl 8 rfl w3.heap.size _ k _ rfl HO.out (.int .i64 n) rfl rfl 3 (by omega) (by omega) w3 HBR.out HBR.out.size (Nat.le_refl _) ?_); intro v4 w4 hO4 hB4)
                  go_roundw
                  case rel => exact ⟨k + 1, ns ++ [(n : Int)], by omega, by go_num, ⟨by rw [List.length_append, HNS.out.1]; rfl, fun m hm => (List.mem_append.1 hm).elim (HNS.out.2 m) (fun h => by rw [List.mem_singleton.1 h]; exact HNL.out)⟩, hB4, show World.ownsRow _ _ _ _ _ _ _ from by rw [nums64_app]; exact hO4.out, HJ5⟩
                  case measure => simp [intOf]; omega
            · obtain rfl : k = 7 := by omega
              obtain ⟨n0, n1, n2, n3, n4, n5, n6, rfl⟩ : ∃ n0 n1 n2 n3 n4 n5 n6, ns = [n0, n1, n2, n3, n4, n5, n6] := by
                match ns, HNS.out.1 with
                | [a0, a1, a2, a3, a4, a5, a6], _ => exact ⟨_, _, _, _, _, _, _, rfl⟩
              have HNN : Hid (rdNs 0 b = .ok [n0, n1, n2, n3, n4, n5, n6]) := show _ = _ from HJ.out.trans (joinN_end (by omega))
              obtain ⟨T, hT⟩ : ∃ T, T = (⟨n0, n1, n2, n3, d, true, n5, n6, z.data.toList, y.data.toList⟩ : TX) := ⟨_, rfl⟩
              obtain ⟨A, hA⟩ : ∃ A, A = (⟨n0, n1, n2, n3, d, false, 0, 0, z32, y.data.toList⟩ : TX) := ⟨_, rfl⟩
              have HF : Hid (R = rdEnd T) := show _ = _ by rw [HRD.out, rdBody, rdNums_ns, HNN.out, hT]; rfl
              have HNI : Hid (∀ n ∈ [n0, n1, n2, n3, n4, n5, n6], i64ok n) := show ∀ n ∈ _, _ from fun n hn => by have h := HNS.out.2 n hn; exact ⟨by omega, h.2⟩
              have HAW : Hid A.wf := show _ from by rw [hA]; exact ⟨HNI.out _ (by simp), HNI.out _ (by simp), HNI.out _ (by simp), HNI.out _ (by simp), Nat.le_trans HDS.out (by decide), i64_zero, i64_zero, z32_length, HY.out⟩
              have HTW : Hid T.wf := show _ from by rw [hT]; exact ⟨HNI.out _ (by simp), HNI.out _ (by simp), HNI.out _ (by simp), HNI.out _ (by simp), Nat.le_trans HDS.out (by decide), HNI.out _ (by simp), HNI.out _ (by simp), HZ.out, HY.out⟩
              have HBD : Hid (∀ w, (Instr.build 25 #[(0, .int .i64 n0), (1, .int .i64 n1), (2, .int .i64 n2), (3, .int .i64 n3), (4, .string d), (9, .agg (u8s y.data.toList).toArray)]).run Tryd.prog w = .ok (.agg A.cells.toArray) w) := show ∀ w, _ from fun w => by rw [hA]; exact tx_build6 n0 n1 n2 n3 d HY.out w
              obtain ⟨A3, hA3⟩ : ∃ A3 : TX, A3 = { A with lane := true, round := n5, turn := n6 } := ⟨_, rfl⟩
              have HST : Hid ((((A.cells.set 5 (.bool true)).set 6 (.int .i64 n5)).set 7 (.int .i64 n6)) = A3.cells ∧ setBy A3 z.data.toList = T) := show _ ∧ _ from by rw [hA3, hA, hT]; exact ⟨rfl, rfl⟩
              have HA3 : Hid A3.wf := show TX.wf _ from by rw [hA3]; exact ⟨HAW.out.frm, HAW.out.nonce, HAW.out.fee, HAW.out.to_, HAW.out.data, HNI.out _ (by simp), HNI.out _ (by simp), HAW.out.by_, HAW.out.tag⟩
              have HA4 : Hid (A.lane = false ∧ A.round = 0 ∧ A.turn = 0) := show _ ∧ _ from by rw [hA]; exact ⟨rfl, rfl, rfl⟩
              obtain ⟨gn, cn, rfl, hgn, hgn2, hcn⟩ := own_view1 HO.out (by omega)
              have KEEP : Hid (∀ W', Below wr.heap.size wr W' → (W'.cell? ⟨gn, 0, none⟩ = some (.int .i64 n0) ∧ W'.cell? ⟨gn, 1, none⟩ = some (.int .i64 n1) ∧ W'.cell? ⟨gn, 2, none⟩ = some (.int .i64 n2) ∧ W'.cell? ⟨gn, 3, none⟩ = some (.int .i64 n3) ∧ W'.cell? ⟨g3, 4, none⟩ = some (.string d) ∧ W'.cell? ⟨g, 1, none⟩ = some (.string y) ∧ W'.cell? ⟨gn, 5, none⟩ = some (.int .i64 n5) ∧ W'.cell? ⟨gn, 6, none⟩ = some (.int .i64 n6) ∧ W'.cell? ⟨g, 2, none⟩ = some (.string z))) := show ∀ W', _ from fun W' hb => ⟨(hb.cell (p := ⟨gn, 0, none⟩) hgn2).trans (hcn 0 _ rfl), (hb.cell (p := ⟨gn, 1, none⟩) hgn2).trans (hcn 1 _ rfl), (hb.cell (p := ⟨gn, 2, none⟩) hgn2).trans (hcn 2 _ rfl), (hb.cell (p := ⟨gn, 3, none⟩) hgn2).trans (hcn 3 _ rfl), (hb.cell (p := ⟨g3, 4, none⟩) (Nat.lt_of_lt_of_le HG2.out.2 HBR.out.size)).trans ((HBR.out.cell (p := ⟨g3, 4, none⟩) HG2.out.2).trans HD4.out), (hb.cell (p := ⟨g, 1, none⟩) (Nat.lt_of_lt_of_le HG2.out.1 HBR.out.size)).trans ((HBR.out.cell (p := ⟨g, 1, none⟩) HG2.out.1).trans HC1.out), (hb.cell (p := ⟨gn, 5, none⟩) hgn2).trans (hcn 5 _ rfl), (hb.cell (p := ⟨gn, 6, none⟩) hgn2).trans (hcn 6 _ rfl), (hb.cell (p := ⟨g, 2, none⟩) (Nat.lt_of_lt_of_le HG2.out.1 HBR.out.size)).trans ((HBR.out.cell (p := ⟨g, 2, none⟩) HG2.out.1).trans HC2.out)⟩
              have hzr := keep_row2 HBR.out hz3
              have HBW := Lib.hid (HB3.out.trans (HBR.out.mono HB3.out.size))
              have HGN : Hid (gn < wr.heap.size ∧ g < wr.heap.size) := show _ ∧ _ from ⟨hgn2, Nat.lt_of_lt_of_le HG2.out.1 HBR.out.size⟩
              clear hT hA hA3 hgn hgn2 hcn hz3 hlt
              go_wp2_with fail
              go_cut [12] (fun p wx => ∃ tb, p = .pointer (some ⟨tb, 0, none⟩) ∧ wr.heap.size ≤ tb ∧ Hid (Below wr.heap.size wr wx) ∧ Hid (wx.heap[tb]? = some (.cells A.cells.toArray 25 (0, 0))))
              case first =>
                have hBd : Below wr.heap.size wr wr.drew := (Below.refl _ _).drew
                refine wp_region_held_drew (S := fun W' => W'.cell? ⟨gn, 0, none⟩ = some (.int .i64 n0) ∧ W'.cell? ⟨gn, 1, none⟩ = some (.int .i64 n1) ∧ W'.cell? ⟨gn, 2, none⟩ = some (.int .i64 n2) ∧ W'.cell? ⟨gn, 3, none⟩ = some (.int .i64 n3) ∧ W'.cell? ⟨g3, 4, none⟩ = some (.string d) ∧ W'.cell? ⟨g, 1, none⟩ = some (.string y) ∧ W'.cell? ⟨gn, 5, none⟩ = some (.int .i64 n5) ∧ W'.cell? ⟨gn, 6, none⟩ = some (.int .i64 n6) ∧ W'.cell? ⟨g, 2, none⟩ = some (.string z)) (by kernel_rfl) (KEEP.out _ hBd) (fun hHeld => ?_)
                refine rg_gen (i := 0) (v := ?_) rfl (by kernel_rfl) (by kernel_rfl) (by kernel_rfl) (fun _ _ _ h => h) rfl (by rfl) ?_ (by assumption) ?_
                rotate_left
                · intro w hSw
                  try dsimp only at hSw
                  go_simp
                  try with_reducible rfl
                try simp only [Act.put, List.setIfInBounds_toArray, List.set_cons_zero, List.set_cons_succ]
                refine rg_gen (i := 1) (v := ?_) rfl (by kernel_rfl) (by kernel_rfl) (by kernel_rfl) (fun _ _ _ h => h) rfl (by rfl) ?_ (by assumption) ?_
                rotate_left
                · intro w hSw
                  try dsimp only at hSw
                  go_simp
                  try with_reducible rfl
                try simp only [Act.put, List.setIfInBounds_toArray, List.set_cons_zero, List.set_cons_succ]
                refine rg_gen (i := 2) (v := ?_) rfl (by kernel_rfl) (by kernel_rfl) (by kernel_rfl) (fun _ _ _ h => h) rfl (by rfl) ?_ (by assumption) ?_
                rotate_left
                · intro w hSw
                  try dsimp only at hSw
                  go_simp
                  try with_reducible rfl
                try simp only [Act.put, List.setIfInBounds_toArray, List.set_cons_zero, List.set_cons_succ]
                refine rg_gen (i := 3) (v := ?_) rfl (by kernel_rfl) (by kernel_rfl) (by kernel_rfl) (fun _ _ _ h => h) rfl (by rfl) ?_ (by assumption) ?_
                rotate_left
                · intro w hSw
                  try dsimp only at hSw
                  go_simp
                  try with_reducible rfl
                try simp only [Act.put, List.setIfInBounds_toArray, List.set_cons_zero, List.set_cons_succ]
                refine rg_gen (i := 4) (v := ?_) rfl (by kernel_rfl) (by kernel_rfl) (by kernel_rfl) (fun _ _ _ h => h) rfl (by rfl) ?_ (by assumption) ?_
                rotate_left
                · intro w hSw
                  try dsimp only at hSw
                  go_simp
                  try with_reducible rfl
                try simp only [Act.put, List.setIfInBounds_toArray, List.set_cons_zero, List.set_cons_succ]
                refine rg_gen (i := 5) (v := ?_) rfl (by kernel_rfl) (by kernel_rfl) (by kernel_rfl) (fun _ _ _ h => h) rfl (by rfl) ?_ (by assumption) ?_
                rotate_left
                · intro w hSw
                  try dsimp only at hSw
                  go_simp
                  try with_reducible rfl
                try simp only [Act.put, List.setIfInBounds_toArray, List.set_cons_zero, List.set_cons_succ]
                refine rg_gen (i := 6) (v := ?_) rfl (by kernel_rfl) (by kernel_rfl) (by kernel_rfl) (fun _ _ _ h => h) rfl (by rfl) ?_ (by assumption) ?_
                rotate_left
                · intro w hSw
                  try dsimp only at hSw
                  go_simp
                  try with_reducible rfl
                try simp only [Act.put, List.setIfInBounds_toArray, List.set_cons_zero, List.set_cons_succ]
                refine rg_gen (i := 7) (v := ?_) rfl (by kernel_rfl) (by kernel_rfl) (by kernel_rfl) (fun _ _ _ h => h) rfl (by rfl) ?_ (by assumption) ?_
                rotate_left
                · intro w hSw
                  try dsimp only at hSw
                  go_simp
                  try with_reducible rfl
                try simp only [Act.put, List.setIfInBounds_toArray, List.set_cons_zero, List.set_cons_succ]
                refine rg_gen (i := 8) (v := ?_) rfl (by kernel_rfl) (by kernel_rfl) (by kernel_rfl) (fun _ _ _ h => h) rfl (by rfl) ?_ (by assumption) ?_
                rotate_left
                · intro w hSw
                  try dsimp only at hSw
                  go_simp
                  try with_reducible rfl
                try simp only [Act.put, List.setIfInBounds_toArray, List.set_cons_zero, List.set_cons_succ]
                refine rg_gen (i := 9) (v := ?_) rfl (by kernel_rfl) (by kernel_rfl) (by kernel_rfl) (fun _ _ _ h => h) rfl (by rfl) ?_ (by assumption) ?_
                rotate_left
                · intro w hSw
                  try dsimp only at hSw
                  go_simp
                  try with_reducible rfl
                try simp only [Act.put, List.setIfInBounds_toArray, List.set_cons_zero, List.set_cons_succ]
                refine rg_gen (i := 10) (v := ?_) rfl (by kernel_rfl) (by kernel_rfl) (by kernel_rfl) (fun _ _ _ h => h) rfl (by rfl) ?_ (by assumption) ?_
                rotate_left
                · intro w hSw
                  try dsimp only at hSw
                  go_simp
                  try with_reducible rfl
                try simp only [Act.put, List.setIfInBounds_toArray, List.set_cons_zero, List.set_cons_succ]
                refine rg_gen (i := 11) (v := ?_) rfl (by kernel_rfl) (by kernel_rfl) (by kernel_rfl) (fun _ _ _ h => h) rfl (by rfl) ?_ (by assumption) ?_
                rotate_left
                · intro w hSw
                  try dsimp only at hSw
                  go_simp
                  try with_reducible rfl
                try simp only [Act.put, List.setIfInBounds_toArray, List.set_cons_zero, List.set_cons_succ]
                refine rg_gen (i := 12) (v := ?_) rfl (by kernel_rfl) (by kernel_rfl) (by kernel_rfl) (fun _ _ _ h => h) rfl (by rfl) ?_ (by assumption) ?_
                rotate_left
                · intro w hSw
                  try dsimp only at hSw
                  go_simp
                  try with_reducible rfl
                try simp only [Act.put, List.setIfInBounds_toArray, List.set_cons_zero, List.set_cons_succ]
                refine rg_gen (i := 13) (v := ?_) rfl (by kernel_rfl) (by kernel_rfl) (by kernel_rfl) (fun _ _ _ h => h) rfl (by rfl) ?_ (by assumption) ?_
                rotate_left
                · intro w hSw
                  try dsimp only at hSw
                  go_simp
                  try with_reducible rfl
                try simp only [Act.put, List.setIfInBounds_toArray, List.set_cons_zero, List.set_cons_succ]
                refine rg_gen (i := 14) (v := ?_) rfl (by kernel_rfl) (by kernel_rfl) (by kernel_rfl) (fun _ _ _ h => h) rfl (by rfl) ?_ (by assumption) ?_
                rotate_left
                · intro w hSw
                  try dsimp only at hSw
                  go_simp
                  try with_reducible rfl
                try simp only [Act.put, List.setIfInBounds_toArray, List.set_cons_zero, List.set_cons_succ]
                refine rg_gen (i := 15) (v := ?_) rfl (by kernel_rfl) (by kernel_rfl) (by kernel_rfl) (fun _ _ _ h => h) rfl (by rfl) ?_ (by assumption) ?_
                rotate_left
                · intro w hSw
                  try dsimp only at hSw
                  go_simp
                  try with_reducible rfl
                try simp only [Act.put, List.setIfInBounds_toArray, List.set_cons_zero, List.set_cons_succ]
                refine rg_gen (i := 16) (v := ?_) rfl (by kernel_rfl) (by kernel_rfl) (by kernel_rfl) (fun _ _ _ h => h) rfl (by rfl) ?_ (by assumption) ?_
                rotate_left
                · intro w hSw
                  try dsimp only at hSw
                  go_simp
                  try with_reducible rfl
                try simp only [Act.put, List.setIfInBounds_toArray, List.set_cons_zero, List.set_cons_succ]
                refine rg_gen (i := 17) (v := ?_) rfl (by kernel_rfl) (by kernel_rfl) (by kernel_rfl) (fun _ _ _ h => h) rfl (by rfl) ?_ (by assumption) ?_
                rotate_left
                · intro w hSw
                  try dsimp only at hSw
                  go_simp
                  try with_reducible rfl
                try simp only [Act.put, List.setIfInBounds_toArray, List.set_cons_zero, List.set_cons_succ]
                have hyy := HY.out
                refine wpAnyH_ready (rs := [18, 20]) (by kernel_rfl) (by simp) ?_
                refine AllReadyH.cons rfl (fun K hK => ?_) (AllReadyH.cons rfl (fun K hK => ?_) AllReadyH.nil)
                · go_simp
                  go_at_call 84
                  refine (r4hash_any y _ hyy).mono ?_
                  rintro e w5 ⟨rfl, hb5⟩
                  have hB5 : Below wr.heap.size wr w5 := bw_call hBd hb5
                  go_wp2_with fail
                  refine hK.out _ _ (KEEP.out _ hB5) (fun hHeld1 => ?_)
                  clear hK K
                  try simp only [Act.put, List.setIfInBounds_toArray, List.set_cons_zero, List.set_cons_succ]
                  refine rg_build (i := 19) rfl (by kernel_rfl) (by kernel_rfl) (by kernel_rfl) (fun _ _ _ h => h) rfl (by rfl) 25 [(0, .tmp 103), (1, .tmp 106), (2, .tmp 109), (3, .tmp 112), (4, .tmp 115), (9, .tmp 119)] rfl [(0, .int .i64 n0), (1, .int .i64 n1), (2, .int .i64 n2), (3, .int .i64 n3), (4, .string d), (9, .agg (u8s y.data.toList).toArray)] rfl HBD.out (by assumption) ?_
                  try simp only [Act.put, List.setIfInBounds_toArray, List.set_cons_zero, List.set_cons_succ]
                  refine rg_one (i := 20) (by kernel_rfl) rfl (fun K hK => ?_)
                  refine rg_step (s := Instr.alloc 25 true (.tuple #[])) (by rfl) rfl rfl (tx_alloc w5) ?_
                  have hB6 : Below wr.heap.size wr (w5.alloc (.cells zlTx.toArray 25)) := bw_alloc hB5 _
                  refine hK.out _ _ (KEEP.out _ hB6) (fun hHeld2 => ?_)
                  clear hK K
                  try simp only [Act.put, List.setIfInBounds_toArray, List.set_cons_zero, List.set_cons_succ]
                  refine rg_one (i := 21) (by kernel_rfl) rfl (fun K hK => ?_)
                  refine rg_store (by rfl) rfl 25 (.tmp 12) (.tmp 120) rfl w5.heap.size A.cells zlTx 25 rfl rfl (heap_alloc_new w5 _) (A.cells_length HAW.out.by_ HAW.out.tag) (tx_info HAW.out) (start_one _) (fun W5 hU => ?_)
                  have hB7 := hU.below hB6 hB5.size
                  refine hK.out _ _ (KEEP.out _ hB7) (fun hHeld3 => ?_)
                  clear hK K
                  refine wpAnyH_done (by kernel_rfl) ?_ _
                  go_wp2_with fail
                  go_meet
                  case rel => exact ⟨w5.heap.size, rfl, hB5.size, hB7, hU.at_⟩
                · refine rg_step (s := Instr.alloc 25 true (.tuple #[])) (by rfl) rfl rfl (tx_alloc wr.drew) ?_
                  have hB6 : Below wr.heap.size wr (wr.drew.alloc (.cells zlTx.toArray 25)) := bw_alloc hBd _
                  have hz6 : (wr.drew.alloc (.cells zlTx.toArray 25)).heap[wr.heap.size]? = some (.cells zlTx.toArray 25 (0, 0)) := heap_alloc_new wr.drew _
                  refine hK.out _ _ (KEEP.out _ hB6) (fun hHeld2 => ?_)
                  clear hK K
                  try simp only [Act.put, List.setIfInBounds_toArray, List.set_cons_zero, List.set_cons_succ]
                  refine rg_one (i := 18) (by kernel_rfl) rfl (fun K hK => ?_)
                  go_simp
                  go_at_call 84
                  refine (r4hash_any y _ hyy).mono ?_
                  rintro e w5 ⟨rfl, hb5⟩
                  have hB5 : Below wr.heap.size wr w5 := bw_call hB6 hb5
                  have hz5 := keep_row2 hb5 hz6
                  go_wp2_with fail
                  refine hK.out _ _ (KEEP.out _ hB5) (fun hHeld1 => ?_)
                  clear hK K
                  try simp only [Act.put, List.setIfInBounds_toArray, List.set_cons_zero, List.set_cons_succ]
                  refine rg_build (i := 19) rfl (by kernel_rfl) (by kernel_rfl) (by kernel_rfl) (fun _ _ _ h => h) rfl (by rfl) 25 [(0, .tmp 103), (1, .tmp 106), (2, .tmp 109), (3, .tmp 112), (4, .tmp 115), (9, .tmp 119)] rfl [(0, .int .i64 n0), (1, .int .i64 n1), (2, .int .i64 n2), (3, .int .i64 n3), (4, .string d), (9, .agg (u8s y.data.toList).toArray)] rfl HBD.out (by assumption) ?_
                  try simp only [Act.put, List.setIfInBounds_toArray, List.set_cons_zero, List.set_cons_succ]
                  refine rg_one (i := 21) (by kernel_rfl) rfl (fun K hK => ?_)
                  refine rg_store (by rfl) rfl 25 (.tmp 12) (.tmp 120) rfl wr.heap.size A.cells zlTx 25 rfl rfl hz5 (A.cells_length HAW.out.by_ HAW.out.tag) (tx_info HAW.out) (start_one _) (fun W5 hU => ?_)
                  have hB7 := hU.below hB5 (Nat.le_refl _)
                  refine hK.out _ _ (KEEP.out _ hB7) (fun hHeld3 => ?_)
                  clear hK K
                  refine wpAnyH_done (by kernel_rfl) ?_ _
                  go_wp2_with fail
                  go_meet
                  case rel => exact ⟨wr.heap.size, rfl, Nat.le_refl _, hB7, hU.at_⟩
              case rest =>
                obtain ⟨tb, rfl, htb, HB7, HT7⟩ := hcut
                have hz7 := keep_row2 HB7.out hzr
                have HBX := Lib.hid (HBW.out.trans (HB7.out.mono HBW.out.size))
                have hwt : w.heap.size ≤ tb := Nat.le_trans HBW.out.size htb
                have hnt : w.heap.size ≠ tb := fun h => by have := block_lt hzr; omega
                have hT7 := HT7.out
                have hK7 := KEEP.out _ HB7.out
                have hnn : gn ≠ tb ∧ g ≠ tb := ⟨by have := HGN.out; omega, by have := HGN.out; omega⟩
                have t5 : wc.cell? ⟨tb, 5, none⟩ = some (.bool A.lane) := by rw [cell_of_row wc tb 5 _ _ _ hT7]; rfl
                have z5 : wc.frozen? ⟨tb, 5, none⟩ = false := frozen_of_row wc tb 5 _ _ hT7
                have hT8 := set_row (i := 5) hT7 (.bool true)
                have k5 : (wc.setCell ⟨tb, 5, none⟩ (.bool true)).cell? ⟨gn, 5, none⟩ = some (.int .i64 n5) := (World.cell?_of_block (heap_setCell_other _ _ _ _ hnn.1)).trans hK7.2.2.2.2.2.2.1
                have t6 : (wc.setCell ⟨tb, 5, none⟩ (.bool true)).cell? ⟨tb, 6, none⟩ = some (.int .i64 A.round) := by rw [cell_of_row _ tb 6 _ _ _ hT8]; rfl
                have z6 : (wc.setCell ⟨tb, 5, none⟩ (.bool true)).frozen? ⟨tb, 6, none⟩ = false := frozen_of_row _ tb 6 _ _ hT8
                have hT9 := set_row (i := 6) hT8 (.int .i64 n5)
                have k6 : ((wc.setCell ⟨tb, 5, none⟩ (.bool true)).setCell ⟨tb, 6, none⟩ (.int .i64 n5)).cell? ⟨gn, 6, none⟩ = some (.int .i64 n6) := (World.cell?_of_block ((heap_setCell_other _ _ _ _ hnn.1).trans (heap_setCell_other _ _ _ _ hnn.1))).trans hK7.2.2.2.2.2.2.2.1
                have t7 : ((wc.setCell ⟨tb, 5, none⟩ (.bool true)).setCell ⟨tb, 6, none⟩ (.int .i64 n5)).cell? ⟨tb, 7, none⟩ = some (.int .i64 A.turn) := by rw [cell_of_row _ tb 7 _ _ _ hT9]; rfl
                have z7 : ((wc.setCell ⟨tb, 5, none⟩ (.bool true)).setCell ⟨tb, 6, none⟩ (.int .i64 n5)).frozen? ⟨tb, 7, none⟩ = false := frozen_of_row _ tb 7 _ _ hT9
                have hT10 := set_row (i := 7) hT9 (.int .i64 n6)
                rw [HST.out.1] at hT10
                have k2 : (((wc.setCell ⟨tb, 5, none⟩ (.bool true)).setCell ⟨tb, 6, none⟩ (.int .i64 n5)).setCell ⟨tb, 7, none⟩ (.int .i64 n6)).cell? ⟨g, 2, none⟩ = some (.string z) := (World.cell?_of_block ((heap_setCell_other _ _ _ _ hnn.2).trans ((heap_setCell_other _ _ _ _ hnn.2).trans (heap_setCell_other _ _ _ _ hnn.2)))).trans hK7.2.2.2.2.2.2.2.2
                have hz10 : (((wc.setCell ⟨tb, 5, none⟩ (.bool true)).setCell ⟨tb, 6, none⟩ (.int .i64 n5)).setCell ⟨tb, 7, none⟩ (.int .i64 n6)).heap[w.heap.size]? = some (.cells zlTx.toArray 25 (0, 0)) := (heap_setCell_other _ _ _ _ hnt).trans ((heap_setCell_other _ _ _ _ hnt).trans ((heap_setCell_other _ _ _ _ hnt).trans hz7))
                have HBY : Hid (Below w.heap.size w (((wc.setCell ⟨tb, 5, none⟩ (.bool true)).setCell ⟨tb, 6, none⟩ (.int .i64 n5)).setCell ⟨tb, 7, none⟩ (.int .i64 n6))) := show Below _ _ _ from ((HBX.out.setCell (p := ⟨tb, 5, none⟩) hwt _).setCell (p := ⟨tb, 6, none⟩) hwt _).setCell (p := ⟨tb, 7, none⟩) hwt _
                have HT10 := Lib.hid hT10
                have HZ10 := Lib.hid hz10
                have HNT := Lib.hid hnt
                have HWT := Lib.hid hwt
                clear hT7 hT8 hT9 hT10 hz10 hz7 hzr hK7 hnn hnt hwt htb
                go_wp2_with fail
                refine (r4hash_any z _ HZ.out).mono ?_
                rintro e w11 ⟨rfl, hb11⟩
                have hT11 := keep_row2 hb11 HT10.out
                have hz11 := keep_row2 hb11 HZ10.out
                have HB11 := Lib.hid (bw_call HBY.out hb11)
                have HZL : Hid (z.data.toList.length = 32) := show _ = _ from HZ.out
                have HLN : Hid (8 + (u8s z.data.toList).length ≤ A3.cells.length) := show _ ≤ _ from by rw [TX.cells_length _ HA3.out.by_ HA3.out.tag, u8s_length, show z.data.toList.length = 32 from HZ.out]; decide
                clear hb11 t5 t6 t7 z5 z6 z7 k5 k6 k2
                go_wp2_with (first
                  | ((with_reducible refine wpList_store_rows rfl 23 (.tmp 137) (.tmp 136) rfl tb 8 (u8s z.data.toList) A3.cells 25 rfl rfl hT11 HLN.out (hash_info HZL.out) (u8s_one _) ?_); intro w12 hU12; have hT12 := hU12.out.at_; rw [by_cells HA3.out HZ.out, HST.out.2] at hT12; have hz12 := (hU12.out.other _ HNT.out).trans hz11; have HB12 := Lib.hid (hU12.out.below HB11.out HWT.out); clear hT11 hz11)
                  | (with_reducible refine wpList_load_rows rfl 25 (.tmp 12) rfl tb 0 T.cells T.cells 25 (0, 0) _ rfl hT12 id_at Tryd.underlying25 rfl (tx_info HTW.out) ?_))
                refine (rcheck_any T _ HTW.out).mono ?_
                rintro e w13 ⟨rfl, hb13⟩
                have hT13 := keep_row2 hb13 hT12
                have hz13 := keep_row2 hb13 hz12
                have HB13 := Lib.hid (bw_call HB12.out hb13)
                have HTL : Hid (T.cells.length = zlTx.length) := show _ = _ from T.cells_length HTW.out.by_ HTW.out.tag
                obtain ⟨ck, hck⟩ : ∃ c, c = T.chk := ⟨_, rfl⟩
                rw [← hck]
                have HCK := Lib.hid hck
                clear hb13 hT12 hz12 hck
                by_cases hc0 : ck = 0
                · subst hc0
                  have HE : Hid (R = .ok T) := show _ = _ by rw [HF.out, rdEnd, if_pos HCK.out.symm]
                  go_wp2_with (first
                    | (with_reducible refine wpList_load_rows rfl 25 (.tmp 12) rfl tb 0 T.cells T.cells 25 (0, 0) _ rfl hT13 id_at Tryd.underlying25 rfl (tx_info HTW.out) ?_)
                    | ((with_reducible refine wpList_store_whole rfl 25 (.tmp 2) (.tmp 144) rfl w.heap.size T.cells zlTx 25 rfl rfl hz13 HTL.out (tx_info HTW.out) (start_one _) ?_); intro w14 hU14))
                  rw [HE.out]
                  exact post_cell_tmp 2 3 25 rfl w.heap.size _ T.cells _ _ hU14.out.at_ Tryd.underlying25 rfl (tx_info HTW.out) (.int .i64 0) rfl rfl rfl ⟨rfl, hU14.out.below HB13.out (Nat.le_refl _)⟩
                · have hd0 : (ck != 0) = true := by simpa using hc0
                  have HE : Hid (R = .error ck) := show _ = _ by rw [HF.out, rdEnd, if_neg (by rw [← HCK.out]; exact hc0), HCK.out]
                  clear hc0
                  go_wp2_with (first
                    | (with_reducible refine wpList_build rfl 25 [] rfl [] (.agg zlTx.toArray) rfl (tx_build0 _) ?_)
                    | ((with_reducible refine wpList_store_whole rfl 25 (.tmp 2) (.tmp 142) rfl w.heap.size zlTx zlTx 25 rfl rfl hz13 rfl zlTx_info zlTx_one ?_); intro wz hUz))
                  rw [HE.out]
                  exact post_cell_tmp 2 3 25 rfl w.heap.size _ zlTx _ _ hUz.out.at_ Tryd.underlying25 rfl zlTx_info (.int .i64 ck) rfl rfl rfl ⟨rfl, hUz.out.below HB13.out (Nat.le_refl _)⟩
        · have HF : Hid (R = .error 6) := show _ = _ by rw [HRP.out, rdParts, hr2]; simp [hbl]
          obtain ⟨mb, hmb⟩ : ∃ m, m = b.length := ⟨_, rfl⟩
          rw [← hmb] at ho3 hbl
          obtain ⟨q3, c3, rfl⟩ := own_head ho3
          have hd : ((mb : Int) != 7) = true := by rw [bne_iff_ne]; omega
          clear hr2 hb3 hz1 ho3 hmb hbl
          go_wp2_with (first
            | (with_reducible refine wpList_build rfl 25 [] rfl [] (.agg zlTx.toArray) rfl (tx_build0 _) ?_)
            | ((with_reducible refine wpList_store_whole rfl 25 (.tmp 2) (.tmp 73) rfl w.heap.size zlTx zlTx 25 rfl rfl hz3 rfl zlTx_info zlTx_one ?_); intro wz hUz))
          rw [HF.out]
          exact post_cell_tmp 2 3 25 rfl w.heap.size _ zlTx _ _ hUz.out.at_ Tryd.underlying25 rfl zlTx_info (.int .i64 6) rfl rfl rfl ⟨rfl, hUz.out.below HB3.out (Nat.le_refl _)⟩
theorem rread_any (s : ByteArray) (w : World) (hs : s.size ≤ 140737488355328) : Calls Tryd.prog 43 #[.string s] w (rdPost w (rdTx s)) := by
  cases hr : rdAll s with
  | error x =>
    rw [show rdTx s = .error x by rw [rdTx, hr]]
    exact rread_err1 s w hs hr
  | ok l =>
    by_cases h2 : l.length = 2
    · obtain ⟨x, y, rfl, hq⟩ := rdTx_2 hr h2
      exact rread_2 s w hs hr _ hq
    · by_cases h3 : l.length = 3
      · obtain ⟨x, y, z, rfl, hq⟩ := rdTx_3 hr h3
        exact rread_3 s w hs hr _ hq
      · rw [rdTx_n hr h2 h3]
        exact rread_len s w hs hr h2 h3
end Go.Proofs.YtckfdmkjeocadaaDoor
