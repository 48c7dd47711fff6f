/- octets.ReadText, octets.ReadList: what the calls do. -/
import Derived.Test.YtckfdmkjeocadaaDoorRn
namespace Go.Proofs.YtckfdmkjeocadaaDoor
open Go.RowKit
theorem extract_str (s : ByteArray) (i n : Nat) : s.extract i (i + n) = bstr ((s.data.toList.drop i).take n) := by
  apply ByteArray.ext
  rw [ByteArray.data_extract]
  apply Array.ext'
  simp [bstr, List.extract]
def rtV (r : Except Int (List UInt8 × Nat)) (a : Nat) : Value :=
  match r with
  | .error e => .tuple #[.string ByteArray.empty, .int .i64 0, .int .i64 e]
  | .ok (t, c) => .tuple #[.string (bstr t), .int .i64 (a + c : Nat), .int .i64 0]
theorem ret3 {a b c a' b' c' : Value} (h1 : a = a') (h2 : b = b') (h3 : c = c') : Ending.returned (.tuple #[a, b, c]) = .returned (.tuple #[a', b', c']) := by rw [h1, h2, h3]
theorem intv {k : IntKind} {x y : Int} (h : x = y) : Value.int k x = .int k y := by rw [h]
theorem ne0_of {e : Int} (h : e = 5 ∨ e = 6) : (e != 0) = true := by rcases h with rfl | rfl <;> rfl
theorem ne0_of3 {e : Int} (h : e = 3 ∨ e = 5 ∨ e = 6) : (e != 0) = true := by rcases h with rfl | rfl | rfl <;> rfl
set_option maxHeartbeats 400000 in
set_option maxRecDepth 4000 in
theorem rt_any (s : ByteArray) (a : Nat) (w : World) (hs : s.size ≤ 140737488355328) (ha : a ≤ s.size) :
    Calls Tryd.prog 105 #[.string s, .int .i64 a] w fun e w' => e = .returned (rtV (rdT (s.data.toList.drop a)) a) ∧ w' = w := by
  have hL : s.data.toList.length = s.size := rfl
  obtain ⟨l, hl⟩ : ∃ l, s.data.toList.drop a = l := ⟨_, rfl⟩
  have hll : l.length = s.size - a := by rw [← hl, List.length_drop]; omega
  have HL := Lib.hid hl
  rw [hl]
  cases hN : rdN l with
  | error x =>
    have hx := Lib.hid (rdN_err hN)
    have hx0 : (x != 0) = true := ne0_of hx.out
    have hr : rdT l = .error x := by simp [rdT, hN]
    have HC := Lib.hid (fun w => rn_error s a w hs ha (x := x) (by rw [hl]; exact hN))
    rw [hr]
    clear hl hN hr hL
    go_enter Tryd.func105, Tryd.ntmps105
    go_wp2_with fail
    refine (HC.out _).mono ?_
    rintro e w1 ⟨rfl, rfl⟩
    go_wp2_with fail
    go_ret3
    exact ⟨rfl, rfl⟩
  | ok p =>
    obtain ⟨n, c⟩ := p
    have h0 := rdN_ok hN
    obtain ⟨h01, h02, h03, h04⟩ := h0
    have HC := Lib.hid (fun w => rn_value s a w hs ha (n := n) (c := c) (by rw [hl]; exact hN))
    have hac : a + c ≤ s.size := by omega
    by_cases hbig : 65536 < n
    · have hr : rdT l = .error 3 := by simp [rdT, hN, hbig]
      rw [hr]
      clear hl hN hr hL
      go_enter Tryd.func105, Tryd.ntmps105
      go_wp2_with fail
      refine (HC.out _).mono ?_
      rintro e w1 ⟨rfl, rfl⟩
      go_wp2_with fail
      go_ret3
      exact ⟨rfl, rfl⟩
    · by_cases hsh : l.length - c < n
      · have hr : rdT l = .error 5 := by simp [rdT, hN, hbig, hsh]
        have hsh' : (s.size : Int) - ((a : Int) + c) < n := by omega
        rw [hr]
        clear hl hN hr hL
        go_enter Tryd.func105, Tryd.ntmps105
        go_wp2_with fail
        refine (HC.out _).mono ?_
        rintro e w1 ⟨rfl, rfl⟩
        go_wp2_with fail
        go_ret3
        exact ⟨rfl, rfl⟩
      · have hr : rdT l = .ok ((l.drop c).take n, c + n) := by simp [rdT, hN, hbig, hsh]
        have hsh' : (n : Int) ≤ (s.size : Int) - ((a : Int) + c) := by omega
        have hex : bstr ((l.drop c).take n) = s.extract (a + c) (a + c + n) := by rw [extract_str, ← hl, List.drop_drop]
        have HE := Lib.hid hex
        rw [hr]
        have hs1 : (0 : Int) ≤ (a : Int) + c := by omega
        have hs2 : (a : Int) + c ≤ (a : Int) + c + n := by omega
        have hs3 : (a : Int) + c + n ≤ s.size := by omega
        clear hl hN hr hL hex
        go_enter Tryd.func105, Tryd.ntmps105
        go_wp2_with fail
        refine (HC.out _).mono ?_
        rintro e w1 ⟨rfl, rfl⟩
        go_wp2_with fail
        go_ret3
        refine ⟨ret3 (congrArg Value.string ?_) (intv ?_) rfl, rfl⟩
        · exact HE.out.symm
        · omega
theorem rt_value (s : ByteArray) (a : Nat) (w : World) (hs : s.size ≤ 140737488355328) (ha : a ≤ s.size) {t : List UInt8} {c : Nat} (h : rdT (s.data.toList.drop a) = .ok (t, c)) :
    Calls Tryd.prog 105 #[.string s, .int .i64 a] w fun e w' => e = .returned (.tuple #[.string (bstr t), .int .i64 (a + c : Nat), .int .i64 0]) ∧ w' = w := by
  have := rt_any s a w hs ha
  rw [h] at this
  exact this
theorem rt_error (s : ByteArray) (a : Nat) (w : World) (hs : s.size ≤ 140737488355328) (ha : a ≤ s.size) {x : Int} (h : rdT (s.data.toList.drop a) = .error x) :
    Calls Tryd.prog 105 #[.string s, .int .i64 a] w fun e w' => e = .returned (.tuple #[.string ByteArray.empty, .int .i64 0, .int .i64 x]) ∧ w' = w := by
  have := rt_any s a w hs ha
  rw [h] at this
  exact this
def rlRes (r : Except Int (List ByteArray × Nat)) (ts : List ByteArray) (d : Nat) : Except Int (List ByteArray × Nat) :=
  match r with
  | .error e => .error e
  | .ok (us, c) => .ok (ts ++ us, d + c)
/-- what ReadList hands back -/
def rlPost (w : World) (a : Nat) (r : Except Int (List ByteArray × Nat)) (e : Ending) (w' : World) : Prop :=
  Below w.heap.size w w' ∧ match r with
  | .error x => e = .returned (.tuple #[.slice none 0 0, .int .i64 0, .int .i64 x])
  | .ok (ts, c) => ∃ v, e = .returned (.tuple #[v, .int .i64 (a + c : Nat), .int .i64 0]) ∧ w'.ownsRow w.heap.size 9 1 v ts.length (strs ts)
set_option maxHeartbeats 1000000 in
set_option maxRecDepth 4000 in
theorem rl_any (s : ByteArray) (a : Nat) (w : World) (hs : s.size ≤ 140737488355328) (ha : a ≤ s.size) :
    Calls Tryd.prog 89 #[.string s, .int .i64 a] w (rlPost w a (rdL (s.data.toList.drop a))) := by
  have hL : s.data.toList.length = s.size := rfl
  obtain ⟨l, hl⟩ : ∃ l, s.data.toList.drop a = l := ⟨_, rfl⟩
  have hll : l.length = s.size - a := by rw [← hl, List.length_drop]; omega
  rw [hl]
  cases hN : rdN l with
  | error x =>
    have hx0 : (x != 0) = true := ne0_of (rdN_err hN)
    have hr : rdL l = .error x := by simp [rdL, hN]
    have HC := Lib.hid (fun w => rn_error s a w hs ha (x := x) (by rw [hl]; exact hN))
    rw [hr]
    clear hl hN hr hL
    go_enter Tryd.func89, Tryd.ntmps89
    go_wp2_with fail
    refine (HC.out _).mono ?_
    rintro e w1 ⟨rfl, rfl⟩
    go_wp2_with fail
    go_ret3
    exact ⟨Below.refl _ _, rfl⟩
  | ok p =>
    obtain ⟨n, c⟩ := p
    obtain ⟨h01, h02, h03, h04⟩ := rdN_ok hN
    have HC := Lib.hid (fun w => rn_value s a w hs ha (n := n) (c := c) (by rw [hl]; exact hN))
    have hac : a + c ≤ s.size := by omega
    by_cases hbig : 1024 < n
    · have hr : rdL l = .error 3 := by simp [rdL, hN, hbig]
      rw [hr]
      clear hl hN hr hL
      go_enter Tryd.func89, Tryd.ntmps89
      go_wp2_with fail
      refine (HC.out _).mono ?_
      rintro e w1 ⟨rfl, rfl⟩
      go_wp2_with fail
      go_ret3
      exact ⟨Below.refl _ _, rfl⟩
    · have hr : rdL l = rlRes (rdLs n 65536 (s.data.toList.drop (a + c))) [] c := by
        unfold rdL
        rw [hN]
        dsimp only
        rw [if_neg hbig, ← hl, List.drop_drop]
        cases rdLs n 65536 (s.data.toList.drop (a + c)) with
        | error e => rfl
        | ok p => obtain ⟨us, f⟩ := p; simp [rlRes]
      obtain ⟨R, hR⟩ : ∃ R, rdL l = R := ⟨_, rfl⟩
      rw [hR]
      have HR := Lib.hid (hR.symm.trans hr)
      clear hl hN hr hL hR
      go_enter Tryd.func89, Tryd.ntmps89
      go_wp2_with fail
      refine (HC.out _).mono ?_
      rintro e w1 ⟨rfl, hw1⟩
      subst hw1
      go_wp2_with fail
      go_loopw [8, 10, 11, 28] (fun nx o left i wr => ∃ (k x T : Nat) (ts : List ByteArray), k ≤ n ∧ x ≤ s.size ∧ T ≤ 65536 ∧ a + c ≤ x ∧ nx = .int .i64 x ∧ i = .int .i64 k ∧ left = .int .i64 T ∧ Hid (Below w1.heap.size w1 wr) ∧ Hid (wr.ownsRow w1.heap.size 9 1 o k (strs ts)) ∧ Hid (R = rlRes (rdLs (n - k) T (s.data.toList.drop x)) ts (x - a))) (fun _ _ _ i _ => n - (intOf i).toNat)
      case atStart => exact ⟨0, a + c, 65536, [], by omega, by omega, by omega, by omega, rfl, rfl, rfl, Below.refl _ _, own_nil _ _ _ _, by have := HR.out; rw [show a + c - a = c by omega]; exact this⟩
      case round =>
        obtain ⟨k, x, T, ts, hk, hx, hT, hxa, rfl, rfl, rfl, hB, hO, hR⟩ := hrel
        by_cases hlt : k < n
        · obtain ⟨m, hm⟩ : ∃ m, n - k = m + 1 := ⟨n - k - 1, by omega⟩
          cases hX : rdT (s.data.toList.drop x) with
          | error y =>
            have hy0 : (y != 0) = true := ne0_of3 (rdT_err hX)
            have HCT := Lib.hid (fun w => rt_error s x w hs hx hX)
            have HF : Hid (R = .error y) := by have := hR.out; rw [hm] at this; simp only [rdLs, hX, rlRes] at this; exact this
            clear hX hm
            go_wp2_with fail
            refine (HCT.out _).mono ?_
            rintro e w2 ⟨rfl, rfl⟩
            go_wp2_with fail
            go_ret3
            rw [HF.out]
            exact ⟨hB.out, rfl⟩
          | ok q =>
            obtain ⟨t, d⟩ := q
            have ht := rdT_ok hX
            obtain ⟨ht1, ht2, ht3, _⟩ := ht
            have htx : x + d ≤ s.size := by rw [List.length_drop] at ht2; have : s.data.toList.length = s.size := rfl; omega
            have HCT := Lib.hid (fun w => rt_value s x w hs hx hX)
            have hsz : (bstr t).size = t.length := rfl
            by_cases hfit : T < (bstr t).size
            · have HF : Hid (R = .error 3) := by have := hR.out; rw [hm] at this; simp only [rdLs, hX, rlRes] at this; rw [if_pos (by omega)] at this; exact this
              clear hX hm hsz
              go_wp2_with fail
              refine (HCT.out _).mono ?_
              rintro e w2 ⟨rfl, rfl⟩
              go_wp2_with fail
              go_ret3
              rw [HF.out]
              exact ⟨hB.out, rfl⟩
            · have HF : Hid (R = rlRes (rdLs (n - (k + 1)) (T - (bstr t).size) (s.data.toList.drop (x + d))) (ts ++ [bstr t]) (x + d - a)) := by
                have := hR.out; rw [hm] at this; simp only [rdLs, hX] at this; rw [if_neg (by omega), List.drop_drop] at this
                rw [show n - (k + 1) = m by omega, this, hsz]
                cases rdLs m (T - t.length) (s.data.toList.drop (x + d)) with
                | error e => rfl
                | ok p => obtain ⟨us, f⟩ := p; simp only [rlRes, List.append_assoc, List.singleton_append]; congr 2; omega
              have hfit' : (bstr t).size ≤ T := by omega
              clear hX hm hsz hfit
              go_wp2_with fail
              refine (HCT.out _).mono ?_
              rintro e w2 ⟨rfl, hw2⟩
              subst hw2
              go_wp2_with ((at_builtin; refine wpList_app1 rfl (.tmp 48) (.tmp 50) 80 9 rfl Tryd.underlying80 _ str_info (.string ByteArray.empty) rfl rfl rfl 16 rfl w1.heap.size _ k _ rfl hO.out (.string (bstr t)) rfl rfl 9 (by omega) (by omega) w1 hB.out hB.out.size (Nat.le_refl _) ?_); intro v3 w3 hO3 hB3)
              go_roundw
              case rel => exact ⟨k + 1, x + d, T - (bstr t).size, ts ++ [bstr t], by omega, by omega, by omega, by omega, by go_num, by go_num, by go_num, hB3, show _ from by rw [strs_app, strs_one]; exact hO3.out, HF⟩
              case measure => simp [intOf]; omega
        · obtain rfl : k = n := by omega
          have HF : Hid (R = .ok (ts, x - a)) := show R = _ by have := hR.out; rw [Nat.sub_self] at this; simpa [rdLs, rlRes] using this
          go_wp2_with fail
          go_ret3
          rw [HF.out]
          refine ⟨hB.out, u10, ?_, ?_⟩
          · exact ret3 rfl (intv (by omega)) rfl
          · have h1 : ts.length = k := by have := hO.out.1; simpa [strs] using this
            rw [h1]; exact hO.out
end Go.Proofs.YtckfdmkjeocadaaDoor
