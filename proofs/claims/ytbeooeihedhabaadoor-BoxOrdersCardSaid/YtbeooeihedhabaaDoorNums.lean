/- Plain facts on reading numbers, texts and lists of bytes: no program in sight. octets.Number: what the call does. octets.join: what the call does. octets.Text, octets.List: what the calls do. octets.ReadNumber, ReadText, ReadList: what the calls do. octets.ReadText, octets.ReadList: what the calls do. -/
import Derived.Test.YtbeooeihedhabaaDoorBase
import Derived.Test.YtbeooeihedhabaaDoorProg
import Derived.Deep.LoopGhost
namespace Go.Proofs.YtbeooeihedhabaaDoor
def beN (l : List UInt8) : Nat := l.foldl (fun n b => n * 256 + b.toNat) 0
def rdN : List UInt8 → Except Int (Nat × Nat)
  | [] => .error 5
  | k :: t =>
    if 8 < k.toNat then .error 6
    else if t.length < k.toNat then .error 5
    else if 0 < k.toNat ∧ ((t.getD 0 0).toNat = 0 ∨ k.toNat = 8 ∧ 127 < (t.getD 0 0).toNat) then .error 6
    else .ok (beN (t.take k.toNat), k.toNat + 1)
theorem beN_snoc (l : List UInt8) (b : UInt8) : beN (l ++ [b]) = beN l * 256 + b.toNat := by simp [beN]
theorem beN_acc : ∀ (l : List UInt8) (n : Nat), l.foldl (fun n b => n * 256 + b.toNat) n = n * 256 ^ l.length + beN l
  | [], n => by simp [beN]
  | b :: l, n => by
    have h1 := beN_acc l (n * 256 + b.toNat)
    have h2 := beN_acc l b.toNat
    have h3 : beN (b :: l) = l.foldl (fun n b => n * 256 + b.toNat) b.toNat := by simp [beN]
    rw [List.foldl_cons, h1, h3, h2, List.length_cons, Nat.pow_succ, Nat.add_mul, Nat.mul_assoc, Nat.mul_comm 256]
    omega
theorem beN_cons (b : UInt8) (l : List UInt8) : beN (b :: l) = b.toNat * 256 ^ l.length + beN l := by
  rw [← beN_acc]; simp [beN]
theorem beN_lt : ∀ (l : List UInt8), beN l < 256 ^ l.length
  | [] => by simp [beN]
  | b :: l => by
    have h1 := beN_lt l
    have h2 := b.toNat_lt
    rw [beN_cons, List.length_cons, Nat.pow_succ]
    have h3 : b.toNat * 256 ^ l.length ≤ 255 * 256 ^ l.length := Nat.mul_le_mul_right _ (by omega)
    omega
theorem rdN_err {l : List UInt8} {e : Int} (h : rdN l = .error e) : e = 5 ∨ e = 6 := by
  cases l with
  | nil => simp [rdN] at h; omega
  | cons k t =>
    simp only [rdN] at h
    split at h
    · simp at h; omega
    · split at h
      · simp at h; omega
      · split at h
        · simp at h; omega
        · simp at h
theorem rdN_ok {l : List UInt8} {n c : Nat} (h : rdN l = .ok (n, c)) : 1 ≤ c ∧ c ≤ l.length ∧ c ≤ 9 ∧ n ≤ 9223372036854775807 := by
  cases l with
  | nil => simp [rdN] at h
  | cons k t =>
    simp only [rdN] at h
    split at h
    · simp at h
    · split at h
      · simp at h
      · split at h
        · simp at h
        · rename_i h1 h2 h3
          simp only [Except.ok.injEq, Prod.mk.injEq] at h
          obtain ⟨rfl, rfl⟩ := h
          refine ⟨by omega, by simp; omega, by omega, ?_⟩
          have h4 := beN_lt (t.take k.toNat)
          rw [List.length_take, Nat.min_eq_left (by omega)] at h4
          by_cases h7 : k.toNat ≤ 7
          · have h5 := Nat.pow_le_pow_right (by decide : 0 < 256) h7
            have e : (256 : Nat) ^ 7 = 72057594037927936 := by decide
            omega
          · have e8 : k.toNat = 8 := by omega
            rw [e8] at h3 h4 h2 ⊢
            cases t with
            | nil => simp at h2
            | cons b t =>
              have hb : b.toNat ≤ 127 := by
                rcases Nat.lt_or_ge 127 b.toNat with hb | hb
                · exact absurd ⟨by omega, .inr ⟨rfl, by simpa using hb⟩⟩ h3
                · exact hb
              rw [List.take_succ_cons, beN_cons]
              have h6 := beN_lt (t.take 7)
              simp only [List.length_cons] at h2
              rw [List.length_take, Nat.min_eq_left (by omega)] at h6 ⊢
              have e : (256 : Nat) ^ 7 = 72057594037927936 := by decide
              rw [e] at h6 ⊢
              omega
def rdT (l : List UInt8) : Except Int (List UInt8 × Nat) :=
  match rdN l with
  | .error e => .error e
  | .ok (n, c) => if 65536 < n then .error 3 else if l.length - c < n then .error 5 else .ok ((l.drop c).take n, c + n)
def rdLs : Nat → Nat → List UInt8 → Except Int (List ByteArray × Nat)
  | 0, _, _ => .ok ([], 0)
  | n + 1, left, l =>
    match rdT l with
    | .error e => .error e
    | .ok (t, c) => if left < t.length then .error 3 else
      match rdLs n (left - t.length) (l.drop c) with
      | .error e => .error e
      | .ok (ts, d) => .ok (bstr t :: ts, c + d)
def rdL (l : List UInt8) : Except Int (List ByteArray × Nat) :=
  match rdN l with
  | .error e => .error e
  | .ok (n, c) => if 1024 < n then .error 3 else
    match rdLs n 65536 (l.drop c) with
    | .error e => .error e
    | .ok (ts, d) => .ok (ts, c + d)
theorem rdT_ok {l t : List UInt8} {c : Nat} (h : rdT l = .ok (t, c)) : 1 ≤ c ∧ c ≤ l.length ∧ t.length ≤ 65536 ∧ ∃ n d, rdN l = .ok (n, d) ∧ n ≤ 65536 ∧ n ≤ l.length - d ∧ t = (l.drop d).take n ∧ c = d + n := by
  unfold rdT at h
  split at h
  · simp at h
  · rename_i n d hn
    have h0 := rdN_ok hn
    split at h
    · simp at h
    · split at h
      · simp at h
      · simp only [Except.ok.injEq, Prod.mk.injEq] at h
        obtain ⟨rfl, rfl⟩ := h
        exact ⟨by omega, by omega, by simp; omega, n, d, hn, by omega, by omega, rfl, rfl⟩
theorem rdT_err {l : List UInt8} {e : Int} (h : rdT l = .error e) : e = 3 ∨ e = 5 ∨ e = 6 := by
  unfold rdT at h
  split at h
  · rename_i hn
    simp at h
    subst h
    have := rdN_err hn
    omega
  · split at h
    · simp at h; omega
    · split at h
      · simp at h; omega
      · simp at h
theorem rdLs_ok : ∀ {n left : Nat} {l : List UInt8} {ts : List ByteArray} {c : Nat}, rdLs n left l = .ok (ts, c) → ts.length = n ∧ c ≤ l.length
  | 0, left, l, ts, c, h => by simp [rdLs] at h; obtain ⟨rfl, rfl⟩ := h; simp
  | n + 1, left, l, ts, c, h => by
    simp only [rdLs] at h
    split at h
    · simp at h
    · rename_i t d ht
      have h0 := rdT_ok ht
      split at h
      · simp at h
      · split at h
        · simp at h
        · rename_i us d2 hu
          simp only [Except.ok.injEq, Prod.mk.injEq] at h
          obtain ⟨rfl, rfl⟩ := h
          have ih := rdLs_ok hu
          rw [List.length_drop] at ih
          exact ⟨by simp [ih.1], by omega⟩
theorem rdL_ok {l : List UInt8} {ts : List ByteArray} {c : Nat} (h : rdL l = .ok (ts, c)) : ts.length ≤ 1024 ∧ c ≤ l.length ∧ 1 ≤ c := by
  unfold rdL at h
  split at h
  · simp at h
  · rename_i n d hn
    have h0 := rdN_ok hn
    split at h
    · simp at h
    · split at h
      · simp at h
      · rename_i us d2 hu
        simp only [Except.ok.injEq, Prod.mk.injEq] at h
        obtain ⟨rfl, rfl⟩ := h
        have h1 := rdLs_ok hu
        rw [List.length_drop] at h1
        omega
open Go.RowKit
set_option maxHeartbeats 400000 in
theorem number_neg (n : Int) (w : World) (h : n < 0) :
    Calls Tryd.prog 62 #[.int .i64 n] w fun e w' => e = .returned (.tuple #[.string ByteArray.empty, .int .i64 2]) ∧ w' = w := by
  go_enter Tryd.func62, Tryd.ntmps62
  go_wp2
  go_ret2
  exact ⟨rfl, rfl⟩
theorem num_at {m : Nat} {X : Array Value} {tl : List UInt8} (h : X = (u8s (List.replicate (m + 1) 0 ++ tl)).toArray) : X[m]? = some (.int .u8 0) := by
  subst h
  simp [u8s, List.getElem?_append]
theorem num_m1 {k m : Nat} (h : 0 < k) (h2 : k < 256 ^ m) : 1 ≤ m := by
  cases m with
  | zero => simp at h2; omega
  | succ m => omega
theorem num_lt {k m : Nat} (h : 1 ≤ m) (h2 : k < 256 ^ m) : k / 256 < 256 ^ (m - 1) := by
  obtain ⟨j, rfl⟩ : ∃ j, m = j + 1 := ⟨m - 1, by omega⟩
  rw [Nat.pow_succ] at h2
  exact Nat.div_lt_of_lt_mul (by simpa [Nat.mul_comm] using h2)
theorem num_set {m : Nat} {tl : List UInt8} (b : UInt8) (h : 1 ≤ m) : ((u8s (List.replicate (m + 1) 0 ++ tl)).toArray).setIfInBounds m (.int .u8 b.toNat) = (u8s (List.replicate (m - 1 + 1) 0 ++ b :: tl)).toArray := by
  obtain ⟨j, rfl⟩ : ∃ j, m = j + 1 := ⟨m - 1, by omega⟩
  simp only [List.setIfInBounds_toArray, Nat.add_sub_cancel]
  congr 1
  rw [List.replicate_succ' (n := j + 1)]
  simp [u8s]
theorem num_step {n k m : Nat} {X : Array Value} {tl : List UInt8} (h1 : 1 ≤ m) (hk : 0 < k) (H : m + tl.length = 8 ∧ numB n = numB k ++ tl ∧ X = (u8s (List.replicate (m + 1) 0 ++ tl)).toArray) :
    Hid (m - 1 + (UInt8.ofNat (k % 256) :: tl).length = 8 ∧ numB n = numB (k / 256) ++ UInt8.ofNat (k % 256) :: tl ∧ X.setIfInBounds m (.int .u8 ((k : Int) % 256)) = (u8s (List.replicate (m - 1 + 1) 0 ++ UInt8.ofNat (k % 256) :: tl)).toArray) := by
  obtain ⟨a, b, rfl⟩ := H
  refine ⟨by simp; omega, by rw [b, numB_pos hk]; simp, ?_⟩
  rw [← num_set _ h1]
  congr 2
  simp
theorem num_conv {n m : Nat} {X : Array Value} {tl : List UInt8} {w : World} (H : m + tl.length = 8 ∧ numB n = numB 0 ++ tl ∧ X = (u8s (List.replicate (m + 1) 0 ++ tl)).toArray) :
    (convert 48 9 (.slice (some ⟨w.heap.size, m, none⟩) (9 - m) (9 - m))).run Tryd.prog (w.alloc (.cells (X.setIfInBounds m (.int .u8 (9 - ((m : Int) + 1)))) 108)) =
      .ok (.string (bstr (numEnc n))) (w.alloc (.cells (X.setIfInBounds m (.int .u8 (9 - ((m : Int) + 1)))) 108)) := by
  obtain ⟨a, b, rfl⟩ := H
  rw [numB_zero, List.nil_append] at b
  have hb : numEnc n = UInt8.ofNat (8 - m) :: tl := by unfold numEnc; rw [b]; congr 2; omega
  refine conv_new _ Tryd.underlying48 Tryd.underlying5 Tryd.underlying9 (by rw [numEnc_length, b]; omega) fun i hi => ?_
  rw [hb, List.replicate_succ']
  cases i with
  | zero => simp [u8s]; omega
  | succ i => simp [u8s, List.getElem?_append, show m + (i + 1) - m = i + 1 by omega]; omega
set_option maxHeartbeats 400000 in
set_option maxRecDepth 4000 in
theorem number_any (n : Int) (w : World) (h : 0 ≤ n) (h2 : n ≤ 9223372036854775807) :
    Calls Tryd.prog 62 #[.int .i64 n] w fun e w' => e = .returned (.tuple #[.string (bstr (numEnc n.toNat)), .int .i64 0]) ∧ Below w.heap.size w w' := by
  obtain ⟨n, rfl⟩ := Int.eq_ofNat_of_zero_le h
  go_enter Tryd.func62, Tryd.ntmps62
  go_wp2
  go_loopw [0, 5] (fun n0 a wr => ∃ (k m : Nat) (X : Array Value) (tl : List UInt8), k ≤ 9223372036854775807 ∧ m ≤ 8 ∧ k < 256 ^ m ∧ Hid (m + tl.length = 8 ∧ numB n = numB k ++ tl ∧ X = (u8s (List.replicate (m + 1) 0 ++ tl)).toArray) ∧ n0 = .int .i64 k ∧ a = .int .i64 ((m : Int) + 1) ∧ wr = w.alloc (.cells X 108)) (fun n0 _ _ => (intOf n0).toNat)
  case atStart =>
    exact ⟨n, 8, (u8s (List.replicate (8 + 1) 0 ++ [])).toArray, [], by omega, by omega, by omega, ⟨rfl, by simp, rfl⟩, rfl, rfl, rfl⟩
  case round =>
    obtain ⟨k, m, X, tl, hk, hm, hkm, H, rfl, rfl, rfl⟩ := hrel
    have hX : X[m]? = some (.int .u8 0) := num_at H.out.2.2
    by_cases hlt : 0 < k
    · have hm1 : 1 ≤ m := num_m1 hlt hkm
      go_wp2
      refine ⟨⟨k / 256, m - 1, _, UInt8.ofNat (k % 256) :: tl, by omega, by omega, num_lt hm1 hkm, num_step hm1 hlt H.out, by go_num, ?_, rfl⟩, by simp [intOf]; omega⟩
      rw [show ((m - 1 : Nat) : Int) + 1 = m by omega]
    · have hm8 : (m : Int) ≤ 8 := by omega
      have hm9 : (m : Int) ≤ 9 := by omega
      have hm9' : m ≤ 9 := by omega
      obtain rfl : k = 0 := by omega
      have hcv := num_conv (w := w) H.out
      go_wp2
      go_ret2
      rw [Int.toNat_natCast]
      exact ⟨rfl, (Below.refl _ _).alloc (Nat.le_refl _) _⟩
open Go.RowKit
def zeros (n : Nat) : List UInt8 := List.replicate n 0
theorem made_zeros (n : Nat) : (madeCells (Value.int .u8 0).cells (n * 1)).toList = u8s (zeros n) := by
  unfold madeCells zeros u8s
  simp only [Value.cells, Array.toList_map, Array.toList_range, Nat.mul_one]
  rw [List.map_replicate]
  apply List.ext_getElem (by simp)
  intro i h1 h2
  simp [Nat.mod_one]
theorem made_info : Tryd.prog.info? 5 = some { ((Tryd.prog.info? 5).getD default) with zero := some (.int .u8 0), size := 1, bytes := 1 } := by kernel_rfl
theorem join_cell {w wr : World} {b off k : Nat} {v : Value} (hb : Below w.heap.size w wr) (h0 : b < w.heap.size) (h : w.cell? ⟨b, off + k, none⟩ = some v) : wr.cell? ⟨b, off + k, none⟩ = some v := by
  rw [hb.cell (p := ⟨b, off + k, none⟩) h0]; exact h
theorem join_row {ls : List ByteArray} {k N T : Nat} (hk : k < ls.length) (hN : N = tot ls) (hT : T = tot (ls.take k)) :
    splice (u8s (flat (ls.take k) ++ zeros (N - tot (ls.take k)))) T (u8s (ls[k]'hk).data.toList) = u8s (flat (ls.take (k + 1)) ++ zeros (N - tot (ls.take (k + 1)))) := by
  subst hT
  have h1 := flat_length (ls.take k)
  have h2 := tot_snoc ls k hk
  have h3 := tot_le ls (k + 1)
  have h4 : (u8s (ls[k]'hk).data.toList).length = (ls[k]'hk).size := by rw [u8s_length]; rfl
  unfold splice
  rw [h4, flat_snoc ls k hk, u8s_append, List.take_left' (by rw [u8s_length, h1]), u8s_append, u8s_append, List.append_assoc]
  congr 2
  rw [List.drop_append, List.drop_of_length_le (by rw [u8s_length, h1]; omega), List.nil_append, u8s_length, h1]
  unfold u8s zeros
  rw [← List.map_drop, List.drop_replicate]
  congr 2
  omega
theorem join_start {w1 : World} {base g N : Nat} (h : w1.ownsRow base 5 1 (.slice (some ⟨g, 0, none⟩) N N) N (madeCells (Value.int .u8 0).cells (N * 1)).toList) :
    w1.heap[g]? = some (.cells (u8s (zeros N)).toArray 5 (0, 0)) := by
  rw [made_zeros] at h
  rcases h.2 with ⟨h2, _⟩ | ⟨g', cap, cur, hv, _, hg, _, _, hs, ht⟩
  · cases h2
  · cases hv
    rw [hg, ← ht, List.take_of_length_le (by rw [Array.length_toList, hs]; exact Nat.le_refl _)]
theorem join_conv {wr : World} {ls : List ByteArray} {g N : Nat} (h : wr.heap[g]? = some (.cells (u8s (flat (ls.take ls.length) ++ zeros (N - tot (ls.take ls.length)))).toArray 5 (0, 0))) (hN : N = tot ls) :
    (convert 48 9 (.slice (some ⟨g, 0, none⟩) N N)).run Tryd.prog wr = .ok (.string (bstr (flat ls))) wr := by
  rw [List.take_length, hN, Nat.sub_self] at h
  refine conv_row _ Tryd.underlying48 Tryd.underlying5 Tryd.underlying9 (by rw [flat_length, hN]) fun i hi => ?_
  rw [cell_of_row wr g (0 + i) _ _ _ h, Nat.zero_add]
  simp [zeros]
set_option maxHeartbeats 1000000 in
set_option maxRecDepth 4000 in
theorem join_any (v : Value) (ls : List ByteArray) (w : World) (hv : RdStrs w v ls) (ht : tot ls ≤ 140737488355328) :
    Calls Tryd.prog 67 #[v] w fun e w' => e = .returned (.string (bstr (flat ls))) ∧ Below w.heap.size w w' := by
  obtain ⟨A, c, rfl, hl, b, off, hb0, hr⟩ := hv
  have hl2 : ls.length ≤ 9223372036854775807 := by omega
  have HR := Lib.hid hr
  clear hr
  go_enter Tryd.func67, Tryd.ntmps67
  go_wp2
  go_loop [3, 12] (fun n i => ∃ k : Nat, k ≤ ls.length ∧ i = .int .i64 k ∧ n = .int .i64 (tot (ls.take k))) (fun _ i => ls.length - (intOf i).toNat)
  case atStart => exact ⟨0, by omega, rfl, rfl⟩
  case round =>
    obtain ⟨k, hk, rfl, rfl⟩ := hrel
    by_cases hlt : k < ls.length
    · obtain ⟨rfl, hc⟩ := HR.out k hlt
      have hs := tot_snoc ls k hlt
      have hs2 := tot_le ls (k + 1)
      have hs3 : tot (List.take k ls) + (ls[k]).size ≤ 9223372036854775807 := by omega
      have HS := Lib.hid hs
      clear hs hs2
      go_wp2
      go_round
      case rel => exact ⟨k + 1, by omega, by go_num, by rw [HS.out]; go_num⟩
      case measure => simp [intOf]; omega
    · obtain rfl : k = ls.length := by omega
      obtain ⟨N, hN⟩ : ∃ N, N = tot ls := ⟨_, rfl⟩
      have hN2 : N ≤ 140737488355328 := by omega
      have hN3 : tot (List.take ls.length ls) = N := by rw [List.take_length]; exact hN.symm
      rw [hN3]
      have HN := Lib.hid hN
      clear hN hN3 ht
      go_wp2_with (refine wpList_make_full _ rfl _ _ 48 rfl w.heap.size 5 _ (.int .u8 0) 1 Tryd.underlying48 made_info rfl rfl .i64 .i64 N N N rfl rfl rfl rfl (by simp; omega) (by unfold maxLen; omega) (Nat.le_refl _) ?_; intro w1 hown hg1)
      have hB := Lib.hid ((Below.refl w.heap.size w).grown hg1 (Nat.le_refl _) (fun k h => by cases h))
      have hrow := Lib.hid (join_start hown)
      clear hown hg1
      go_loopw [7, 25] (fun at_ i wr => ∃ k T : Nat, k ≤ ls.length ∧ T ≤ N ∧ Hid (T = tot (ls.take k)) ∧ i = .int .i64 k ∧ at_ = .int .i64 T ∧ Hid (Below w.heap.size w wr) ∧ Hid (wr.heap[w.heap.size]? = some (.cells (u8s (flat (ls.take k) ++ zeros (N - tot (ls.take k)))).toArray 5 (0, 0)))) (fun _ i _ => ls.length - (intOf i).toNat)
      case atStart => exact ⟨0, 0, by omega, by omega, rfl, rfl, rfl, hB.out, show _ = _ by simpa [flat, tot] using hrow.out⟩
      case round =>
        clear hB hrow
        obtain ⟨k, T, hk, hT, hTk, rfl, rfl, hB, hrow⟩ := hrel
        by_cases hlt : k < ls.length
        · obtain ⟨rfl, hc0⟩ := HR.out k hlt
          have hc := join_cell hB.out hb0 hc0
          clear hc0
          have hs := tot_snoc ls k hlt
          have hs2 := tot_le ls (k + 1)
          have hs4 : T + (ls[k]).size ≤ N := by rw [hTk.out, HN.out]; omega
          have hTn : (T : Int) ≤ N := by omega
          have HS := Lib.hid hs
          clear hs hs2
          have hinf : (Tryd.prog.info? 5).map (·.size) = some 1 := by kernel_rfl
          by_cases hz : N = T
          · obtain rfl : N = T := hz
            have hs0 : (ls[k]).size ≤ 0 := by omega
            have hs3 : N + (ls[k]).size ≤ (u8s (flat (ls.take k) ++ zeros (N - tot (ls.take k)))).length := by
              rw [u8s_length, List.length_append, flat_length, ← hTk.out]; unfold zeros; rw [List.length_replicate]; omega
            go_wp2_with ((with_reducible refine wpList_copy_str rfl (.tmp 32) (.tmp 33) 48 9 rfl 5 Tryd.underlying48 hinf _ _ _ (ls[k]) rfl rfl w.heap.size N _ 5 hrow.out hs0 (fun h => absurd h (by omega)) hs3 w.heap.size w hB.out (Nat.le_refl _) ?_); intro w2 hrow2 hB2; have hB2' := Lib.hid hB2; clear hB2)
            go_roundw
            case rel => exact ⟨k + 1, N + (ls[k]).size, by omega, by omega, show _ = _ by rw [HS.out, ← hTk.out], by go_num, by go_num, hB2'.out, show _ = _ by rw [← join_row hlt HN.out hTk.out]; exact hrow2.out⟩
            case measure => simp [intOf]; omega
          · have hs0 : (ls[k]).size ≤ N - T := by omega
            have hs3 : T + (ls[k]).size ≤ (u8s (flat (ls.take k) ++ zeros (N - tot (ls.take k)))).length := by
              rw [u8s_length, List.length_append, flat_length, ← hTk.out]; unfold zeros; rw [List.length_replicate]; omega
            go_wp2_with ((with_reducible refine wpList_copy_str rfl (.tmp 32) (.tmp 33) 48 9 rfl 5 Tryd.underlying48 hinf _ _ _ (ls[k]) rfl rfl w.heap.size T _ 5 hrow.out hs0 (fun _ => rfl) hs3 w.heap.size w hB.out (Nat.le_refl _) ?_); intro w2 hrow2 hB2; have hB2' := Lib.hid hB2; clear hB2)
            go_roundw
            case rel => exact ⟨k + 1, T + (ls[k]).size, by omega, by omega, show _ = _ by rw [HS.out, ← hTk.out], by go_num, by go_num, hB2'.out, show _ = _ by rw [← join_row hlt HN.out hTk.out]; exact hrow2.out⟩
            case measure => simp [intOf]; omega
        · obtain rfl : k = ls.length := by omega
          have hcv := join_conv hrow.out HN.out
          go_wp2
          go_ret
          exact ⟨rfl, hB.out⟩
open Go.RowKit
def encText (s : ByteArray) : List UInt8 := numEnc s.size ++ s.data.toList
def encTexts (ls : List ByteArray) : List UInt8 := (ls.map encText).flatten
def encList (ls : List ByteArray) : List UInt8 := numEnc ls.length ++ encTexts ls
theorem flat_pair (a : List UInt8) (s : ByteArray) : flat [bstr a, s] = a ++ s.data.toList := by simp [flat, bstr]
theorem num_small {n : Nat} (h : n ≤ 16777215) : (numEnc n).length ≤ 4 := by
  rw [numEnc_length]
  have := numB_length_le 3 n (by omega)
  omega
theorem rd_two {W w : World} {x y : ByteArray} {t : TypeId} (hW : W = w.alloc (.cells #[.string x, .string y] t)) :
    RdStrs W (.slice (some ⟨w.heap.size, 0, none⟩) 2 2) [x, y] := by
  subst hW
  refine ⟨_, 2, rfl, by simp, w.heap.size, 0, by simp, fun k hk => ⟨rfl, ?_⟩⟩
  rw [cell_of_row _ w.heap.size (0 + k) _ _ _ (heap_alloc_new w _)]
  match k, hk with
  | 0, _ => rfl
  | 1, _ => rfl
set_option maxHeartbeats 400000 in
theorem text_any (s : ByteArray) (w : World) (h : s.size ≤ 65536) :
    Calls Tryd.prog 66 #[.string s] w fun e w' => e = .returned (.tuple #[.string (bstr (encText s)), .int .i64 0]) ∧ Below w.heap.size w w' := by
  have hn := num_small (n := s.size) (by omega)
  go_enter Tryd.func66, Tryd.ntmps66
  go_wp2_with fail
  refine (number_any _ _ (by omega) (by omega)).mono ?_
  rintro e w1 ⟨rfl, hb⟩
  have HB := Lib.hid hb
  clear hb
  go_wp2_with fail
  refine (join_any _ [bstr (numEnc s.size), s] _ (rd_two rfl) (by simp [tot, bstr_size]; omega)).mono ?_
  rintro e w2 ⟨rfl, hb2⟩
  have HB2 := Lib.hid hb2
  clear hb2
  go_wp2_with fail
  go_ret2
  rw [flat_pair]
  exact ⟨rfl, bw_call (bw_alloc HB.out _) HB2.out⟩
set_option maxHeartbeats 400000 in
theorem text_big (s : ByteArray) (w : World) (h : 65536 < s.size) :
    Calls Tryd.prog 66 #[.string s] w fun e w' => e = .returned (.tuple #[.string ByteArray.empty, .int .i64 3]) ∧ w' = w := by
  go_enter Tryd.func66, Tryd.ntmps66
  go_wp2
  go_ret2
  exact ⟨rfl, rfl⟩
theorem str_info : Tryd.prog.info? 9 = some { ((Tryd.prog.info? 9).getD default) with zero := some (.string ByteArray.empty), size := 1, bytes := 16 } := by kernel_rfl
def strs (ls : List ByteArray) : List Value := ls.map Value.string
theorem strs_one (s : ByteArray) : strs [s] = [.string s] := rfl
theorem strs_app (a b : List ByteArray) : strs (a ++ b) = strs a ++ strs b := by simp [strs]
theorem own_one {W w : World} {x : ByteArray} {t : TypeId} {B : Nat} (hB : B ≤ w.heap.size) (hW : W = w.alloc (.cells #[.string x] t)) :
    W.ownsRow B t 1 (.slice (some ⟨w.heap.size, 0, none⟩) 1 1) 1 (strs [x]) := by
  subst hW
  exact ⟨rfl, .inr ⟨_, 1, #[.string x], rfl, hB, heap_alloc_new w _, Nat.le_refl _, by simp [maxLen], rfl, rfl⟩⟩
def encd (ls : List ByteArray) : List ByteArray := ls.map fun s => bstr (encText s)
theorem encd_tot : ∀ (ls : List ByteArray), (∀ s ∈ ls, s.size ≤ 65536) → tot (encd ls) ≤ tot ls + 4 * ls.length
  | [], _ => by simp [tot, encd]
  | s :: ls, h => by
    have ih := encd_tot ls (fun x hx => h x (by simp [hx]))
    have h1 := num_small (n := s.size) (by have := h s (by simp); omega)
    have h2 : s.data.toList.length = s.size := rfl
    simp only [tot, encd, List.map_cons, List.sum_cons, List.length_cons, bstr_size, encText, List.length_append] at ih ⊢
    omega
theorem size_le_tot {ls : List ByteArray} {s : ByteArray} (h : s ∈ ls) : s.size ≤ tot ls := by
  induction ls with
  | nil => simp at h
  | cons x l ih =>
    simp only [tot, List.map_cons, List.sum_cons] at ih ⊢
    rcases List.mem_cons.1 h with rfl | h
    · omega
    · have := ih h; omega
theorem flat_encd (ls : List ByteArray) : flat (bstr (numEnc ls.length) :: encd ls) = encList ls := by
  unfold flat encList encTexts encd
  rw [List.map_cons, List.flatten_cons, bstr_toList, List.map_map]
  rfl
theorem list_tot {ls : List ByteArray} (hl : ls.length ≤ 1024) (ht : tot ls ≤ 65536) : tot (bstr (numEnc ls.length) :: encd ls) ≤ 140737488355328 := by
  have h1 := encd_tot ls fun s hs => Nat.le_trans (size_le_tot hs) ht
  have h2 := num_small (n := ls.length) (by omega)
  simp only [tot, List.map_cons, List.sum_cons, bstr_size] at h1 ht ⊢
  omega
theorem list_snoc {ls : List ByteArray} {k : Nat} (h : k < ls.length) : (bstr (numEnc ls.length) :: encd (ls.take k)) ++ [bstr (encText (ls[k]'h))] = bstr (numEnc ls.length) :: encd (ls.take (k + 1)) := by
  rw [List.take_succ_eq_append_getElem h, encd, encd, List.map_append]; rfl
set_option maxHeartbeats 1000000 in
set_option maxRecDepth 4000 in
theorem list_ok (v : Value) (ls : List ByteArray) (w : World) (hv : RdStrs w v ls) (hl : ls.length ≤ 1024) (ht : tot ls ≤ 65536) :
    Calls Tryd.prog 30 #[v] w fun e w' => e = .returned (.tuple #[.string (bstr (encList ls)), .int .i64 0]) ∧ Below w.heap.size w w' := by
  obtain ⟨A, c, rfl, _, b, off, hb0, hr⟩ := hv
  have HR := Lib.hid hr
  clear hr
  go_enter Tryd.func30, Tryd.ntmps30
  go_wp2_with fail
  refine (number_any _ _ (by omega) (by omega)).mono ?_
  rintro e w1 ⟨rfl, hb⟩
  have HB := Lib.hid hb
  have hs1 := hb.size
  clear hb
  go_wp2_with fail
  have hown := Lib.hid (own_one (x := bstr (numEnc ls.length)) (t := 9) hs1 (rfl : w1.alloc (.cells #[.string (bstr (numEnc ls.length))] 9) = _))
  go_loopw [6, 7, 25] (fun o left i wr => ∃ k T : Nat, k ≤ ls.length ∧ T + tot (ls.take k) = 65536 ∧ i = .int .i64 k ∧ left = .int .i64 T ∧ Hid (Below w.heap.size w wr) ∧ Hid (wr.ownsRow w.heap.size 9 1 o (k + 1) (strs (bstr (numEnc ls.length) :: encd (ls.take k))))) (fun _ _ i _ => ls.length - (intOf i).toNat)
  case atStart => exact ⟨0, 65536, by omega, rfl, rfl, rfl, HB.out.trans ((((Below.refl _ _).alloc (Nat.le_refl _) _)).mono hs1), hown.out⟩
  case round =>
    clear hown
    obtain ⟨k, T, hk, hT, rfl, rfl, hB, hO⟩ := hrel
    by_cases hlt : k < ls.length
    · obtain ⟨rfl, hc0⟩ := HR.out k hlt
      have hc := join_cell hB.out hb0 hc0
      clear hc0
      have hs := tot_snoc ls k hlt
      have hs2 := tot_le ls (k + 1)
      have hs4 : (ls[k]).size ≤ T := by omega
      have hs5 : (ls[k]).size ≤ 65536 := by omega
      have hT2 : T ≤ 65536 := by omega
      have HS := Lib.hid hs
      have HT := Lib.hid hT
      clear hs hs2 hT
      go_wp2_with fail
      refine (text_any _ _ hs5).mono ?_
      rintro e w2 ⟨rfl, hb2⟩
      have HB2 := Lib.hid (bw_call hB.out hb2)
      have HO2 := Lib.hid (own_below hO.out hb2 (Nat.le_refl _))
      clear hb2
      go_wp2_with ((at_builtin; refine wpList_app1 rfl (.tmp 42) (.tmp 44) 45 9 rfl Tryd.underlying45 _ str_info (.string ByteArray.empty) rfl rfl rfl 16 rfl w.heap.size _ (k + 1) _ rfl HO2.out (.string (bstr (encText ls[k]))) rfl rfl 9 (by omega) (by omega) w HB2.out HB2.out.size (Nat.le_refl _) ?_); intro v3 w3 hO3 hB3)
      go_roundw
      case rel => exact ⟨k + 1, T - (ls[k]).size, by omega, by rw [HS.out]; have := HT.out; omega, by go_num, by go_num, hB3, show _ from by have := hO3.out; rw [← strs_one, ← strs_app, list_snoc hlt] at this; exact this⟩
      case measure => simp [intOf]; omega
    · obtain rfl : k = ls.length := by omega
      have hrd : RdStrs wr u6 (bstr (numEnc ls.length) :: encd ls) := RdStrs.of_own (by have := hO.out; rw [List.take_length] at this; exact this) (by omega) (Nat.lt_of_lt_of_le (by omega : 0 < w.heap.size) hB.out.size)
      go_wp2_with fail
      refine (join_any _ _ _ hrd (list_tot hl ht)).mono ?_
      rintro e w2 ⟨rfl, hb2⟩
      have HB2 := Lib.hid (bw_call hB.out hb2)
      clear hb2
      go_wp2_with fail
      go_ret2
      rw [flat_encd]
      exact ⟨rfl, HB2.out⟩
set_option maxHeartbeats 1000000 in
set_option maxRecDepth 4000 in
theorem list_big (v : Value) (ls : List ByteArray) (w : World) (hv : RdStrs w v ls) (hl : ls.length ≤ 1024) (ht : 65536 < tot ls) :
    Calls Tryd.prog 30 #[v] w fun e w' => e = .returned (.tuple #[.string ByteArray.empty, .int .i64 3]) ∧ Below w.heap.size w w' := by
  obtain ⟨A, c, rfl, _, b, off, hb0, hr⟩ := hv
  have HR := Lib.hid hr
  clear hr
  go_enter Tryd.func30, Tryd.ntmps30
  go_wp2_with fail
  refine (number_any _ _ (by omega) (by omega)).mono ?_
  rintro e w1 ⟨rfl, hb⟩
  have HB := Lib.hid hb
  have hs1 := hb.size
  clear hb
  go_wp2_with fail
  have hown := Lib.hid (own_one (x := bstr (numEnc ls.length)) (t := 9) hs1 (rfl : w1.alloc (.cells #[.string (bstr (numEnc ls.length))] 9) = _))
  go_loopw [6, 7, 25] (fun o left i wr => ∃ k T : Nat, k ≤ ls.length ∧ T + tot (ls.take k) = 65536 ∧ i = .int .i64 k ∧ left = .int .i64 T ∧ Hid (Below w.heap.size w wr) ∧ Hid (wr.ownsRow w.heap.size 9 1 o (k + 1) (strs (bstr (numEnc ls.length) :: encd (ls.take k))))) (fun _ _ i _ => ls.length - (intOf i).toNat)
  case atStart => exact ⟨0, 65536, by omega, rfl, rfl, rfl, HB.out.trans ((((Below.refl _ _).alloc (Nat.le_refl _) _)).mono hs1), hown.out⟩
  case round =>
    clear hown
    obtain ⟨k, T, hk, hT, rfl, rfl, hB, hO⟩ := hrel
    by_cases hlt : k < ls.length
    · obtain ⟨rfl, hc0⟩ := HR.out k hlt
      have hc := join_cell hB.out hb0 hc0
      clear hc0
      have hs := tot_snoc ls k hlt
      have hs2 := tot_le ls (k + 1)
      by_cases hfit : T < (ls[k]).size
      · have HB2 := hB
        clear hs hs2 hT
        go_wp2_with fail
        go_ret2
        exact ⟨rfl, HB2.out⟩
      · have hs4 : (ls[k]).size ≤ T := by omega
        have hs5 : (ls[k]).size ≤ 65536 := by omega
        have hT2 : T ≤ 65536 := by omega
        have HS := Lib.hid hs
        have HT := Lib.hid hT
        clear hs hs2 hT
        go_wp2_with fail
        refine (text_any _ _ hs5).mono ?_
        rintro e w2 ⟨rfl, hb2⟩
        have HB2 := Lib.hid (bw_call hB.out hb2)
        have HO2 := Lib.hid (own_below hO.out hb2 (Nat.le_refl _))
        clear hb2
        go_wp2_with ((at_builtin; refine wpList_app1 rfl (.tmp 42) (.tmp 44) 45 9 rfl Tryd.underlying45 _ str_info (.string ByteArray.empty) rfl rfl rfl 16 rfl w.heap.size _ (k + 1) _ rfl HO2.out (.string (bstr (encText ls[k]))) rfl rfl 9 (by omega) (by omega) w HB2.out HB2.out.size (Nat.le_refl _) ?_); intro v3 w3 hO3 hB3)
        go_roundw
        case rel => exact ⟨k + 1, T - (ls[k]).size, by omega, by rw [HS.out]; have := HT.out; omega, by go_num, by go_num, hB3, show _ from by have := hO3.out; rw [← strs_one, ← strs_app, list_snoc hlt] at this; exact this⟩
        case measure => simp [intOf]; omega
    · exfalso
      obtain rfl : k = ls.length := by omega
      rw [List.take_length] at hT
      omega
set_option maxHeartbeats 400000 in
theorem list_long (v : Value) (ls : List ByteArray) (w : World) (hv : RdStrs w v ls) (hl : 1024 < ls.length) :
    Calls Tryd.prog 30 #[v] w fun e w' => e = .returned (.tuple #[.string ByteArray.empty, .int .i64 3]) ∧ w' = w := by
  obtain ⟨A, c, rfl, hl2, b, off, hb0, hr⟩ := hv
  clear hr
  go_enter Tryd.func30, Tryd.ntmps30
  go_wp2
  go_ret2
  exact ⟨rfl, rfl⟩
open Go.RowKit
theorem byte_at {s : ByteArray} {a : Nat} (h : a < s.size) : s.data.toList.drop a = (s[a]'h) :: s.data.toList.drop (a + 1) := by
  have h' : a < s.data.toList.length := h
  rw [List.drop_eq_getElem_cons h']
  rfl
set_option maxHeartbeats 400000 in
theorem rn_end (s : ByteArray) (w : World) (_hs : s.size ≤ 140737488355328) :
    Calls Tryd.prog 68 #[.string s, .int .i64 s.size] w fun e w' => e = .returned (.tuple #[.int .i64 0, .int .i64 0, .int .i64 5]) ∧ w' = w := by
  go_enter Tryd.func68, Tryd.ntmps68
  go_wp2
  go_ret3
  exact ⟨rfl, rfl⟩
set_option maxHeartbeats 400000 in
theorem rn_e6a (s : ByteArray) (a : Nat) (w : World) (_hs : s.size ≤ 140737488355328) (ha : a < s.size) (h8 : 8 < ((s[a]'ha).toNat : Int)) :
    Calls Tryd.prog 68 #[.string s, .int .i64 a] w fun e w' => e = .returned (.tuple #[.int .i64 0, .int .i64 0, .int .i64 6]) ∧ w' = w := by
  have hbd : ((s[a]'ha).toNat : Int) ≤ 255 := by have := (s[a]'ha).toNat_lt; omega
  have hlt : (a : Int) < s.size := by omega
  go_enter Tryd.func68, Tryd.ntmps68
  go_wp2
  go_ret3
  exact ⟨rfl, rfl⟩
set_option maxHeartbeats 400000 in
theorem rn_e5 (s : ByteArray) (a : Nat) (w : World) (_hs : s.size ≤ 140737488355328) (ha : a < s.size) (h8 : ((s[a]'ha).toNat : Int) ≤ 8) (hl : (s.size : Int) - a - 1 < ((s[a]'ha).toNat : Int)) :
    Calls Tryd.prog 68 #[.string s, .int .i64 a] w fun e w' => e = .returned (.tuple #[.int .i64 0, .int .i64 0, .int .i64 5]) ∧ w' = w := by
  have hbd : ((s[a]'ha).toNat : Int) ≤ 255 := by have := (s[a]'ha).toNat_lt; omega
  have hlt : (a : Int) < s.size := by omega
  go_enter Tryd.func68, Tryd.ntmps68
  go_wp2
  go_ret3
  exact ⟨rfl, rfl⟩
set_option maxHeartbeats 400000 in
theorem rn_e6b (s : ByteArray) (a : Nat) (w : World) (hs : s.size ≤ 140737488355328) (ha : a < s.size) (h8 : ((s[a]'ha).toNat : Int) ≤ 8) (hl : ((s[a]'ha).toNat : Int) ≤ (s.size : Int) - a - 1) (h1 : a + 1 < s.size) (h0 : 0 < ((s[a]'ha).toNat : Int)) (hz : ((((s[a + 1]'h1).toNat : Nat) : Int) == 0) = true) :
    Calls Tryd.prog 68 #[.string s, .int .i64 a] w fun e w' => e = .returned (.tuple #[.int .i64 0, .int .i64 0, .int .i64 6]) ∧ w' = w := by
  have hbd : ((s[a]'ha).toNat : Int) ≤ 255 := by have := (s[a]'ha).toNat_lt; omega
  have hlt : (a : Int) < s.size := by omega
  have hbd1 : ((s[a + 1]'h1).toNat : Int) ≤ 255 := by have := (s[a + 1]'h1).toNat_lt; omega
  have hlt1 : (a : Int) + 1 < s.size := by omega
  go_enter Tryd.func68, Tryd.ntmps68
  go_wp2
  go_ret3
  exact ⟨rfl, rfl⟩
set_option maxHeartbeats 400000 in
theorem rn_e6c (s : ByteArray) (a : Nat) (w : World) (hs : s.size ≤ 140737488355328) (ha : a < s.size) (h8 : (((s[a]'ha).toNat : Int) == 8) = true) (h80 : 0 < ((s[a]'ha).toNat : Int)) (h88 : ((s[a]'ha).toNat : Int) ≤ 8) (hl : ((s[a]'ha).toNat : Int) ≤ (s.size : Int) - a - 1) (h1 : a + 1 < s.size) (hz : ((((s[a + 1]'h1).toNat : Nat) : Int) == 0) = false) (hb : 127 < ((s[a + 1]'h1).toNat : Int)) :
    Calls Tryd.prog 68 #[.string s, .int .i64 a] w fun e w' => e = .returned (.tuple #[.int .i64 0, .int .i64 0, .int .i64 6]) ∧ w' = w := by
  have hbd : ((s[a]'ha).toNat : Int) ≤ 255 := by have := (s[a]'ha).toNat_lt; omega
  have hlt : (a : Int) < s.size := by omega
  have hbd1 : ((s[a + 1]'h1).toNat : Int) ≤ 255 := by have := (s[a + 1]'h1).toNat_lt; omega
  have hlt1 : (a : Int) + 1 < s.size := by omega
  go_enter Tryd.func68, Tryd.ntmps68
  go_wp2
  go_ret3
  exact ⟨rfl, rfl⟩
theorem rn_or {N b : Nat} (hN : N ≤ 36028797018963967) (hb : b ≤ 255) : bits .or .i64 ((N : Int) * 256) (b : Int) = ((N * 256 + b : Nat) : Int) := by
  rw [bits_join .i64 63 (by decide) (fun n h0 h1 => by rw [IntKind.wrap_i64]; omega) 8 _ _ (by omega) (by omega) (by omega) (by omega) (by omega) (by omega)]
  omega
theorem rn_bd {l : List UInt8} {k j : Nat} (h8 : k ≤ 8) (hc : k ≤ 7 ∨ (l.getD 0 0).toNat ≤ 127) (hj : j < k) (hl : k ≤ l.length) : beN (l.take j) ≤ 36028797018963967 := by
  have h1 := beN_lt (l.take j)
  rw [List.length_take, Nat.min_eq_left (by omega)] at h1
  by_cases h6 : j ≤ 6
  · have := Nat.pow_le_pow_right (by decide : 0 < 256) h6
    omega
  · obtain rfl : j = 7 := by omega
    cases l with
    | nil => simp at hl; omega
    | cons b l =>
      have hb : b.toNat ≤ 127 := by rcases hc with h | h; omega; simpa using h
      rw [List.take_succ_cons, beN_cons]
      have h2 := beN_lt (l.take 6)
      simp only [List.length_cons] at hl
      rw [List.length_take, Nat.min_eq_left (by omega)] at h2 ⊢
      have e : (256 : Nat) ^ 6 = 281474976710656 := by decide
      rw [e] at h2 ⊢
      omega
theorem rn_next {s : ByteArray} {a j N : Nat} (h : a + 1 + j < s.size) (hN : N = beN ((s.data.toList.drop (a + 1)).take j)) : N * 256 + (s[a + 1 + j]'h).toNat = beN ((s.data.toList.drop (a + 1)).take (j + 1)) := by
  have h' : j < (s.data.toList.drop (a + 1)).length := by rw [List.length_drop]; have : s.data.toList.length = s.size := rfl; omega
  rw [List.take_succ_eq_append_getElem h', beN_snoc, ← hN, List.getElem_drop]
  rfl
set_option maxHeartbeats 400000 in
set_option maxRecDepth 4000 in
theorem rn_ok7 (s : ByteArray) (a : Nat) (w : World) (hs : s.size ≤ 140737488355328) (ha : a < s.size) (k : Nat) (hk : ((s[a]'ha).toNat : Int) = k) (h8 : k ≤ 7) (hl : k ≤ s.size - a - 1) (h1 : a + 1 < s.size) (h0 : 0 < k) (hz : ((((s[a + 1]'h1).toNat : Nat) : Int) == 0) = false) :
    Calls Tryd.prog 68 #[.string s, .int .i64 a] w fun e w' => e = .returned (.tuple #[.int .i64 (beN ((s.data.toList.drop (a + 1)).take k)), .int .i64 (a + 1 + k : Nat), .int .i64 0]) ∧ w' = w := by
  have hk8 : ((k : Int) == 8) = false := by simp; omega
  have h80 : k ≤ 8 := by omega
  have hcc : Hid (k ≤ 7 ∨ ((s.data.toList.drop (a + 1)).getD 0 0).toNat ≤ 127) := .inl h8
  have hbd : ((s[a]'ha).toNat : Int) ≤ 255 := by have := (s[a]'ha).toNat_lt; omega
  have hlt : (a : Int) < s.size := by omega
  have hbd1 : ((s[a + 1]'h1).toNat : Int) ≤ 255 := by have := (s[a + 1]'h1).toNat_lt; omega
  have hlt1 : (a : Int) + 1 < s.size := by omega
  go_enter Tryd.func68, Tryd.ntmps68
  go_wp2
  go_loop [8, 59] (fun n i => ∃ j N : Nat, j ≤ k ∧ i = .int .i64 j ∧ n = .int .i64 N ∧ (j < k → N ≤ 36028797018963967) ∧ Hid (N = beN ((s.data.toList.drop (a + 1)).take j))) (fun _ i => k - (intOf i).toNat)
  case atStart => exact ⟨0, 0, by omega, rfl, rfl, by omega, rfl⟩
  case round =>
    obtain ⟨j, N, hj, rfl, rfl, hN, HN⟩ := hrel
    by_cases hlt : j < k
    · have hN2 := hN hlt
      clear hN
      have hj2 : a + 1 + j < s.size := by omega
      have hbj : ((s[a + 1 + j]'hj2).toNat : Int) ≤ 255 := by have := (s[a + 1 + j]'hj2).toNat_lt; omega
      go_wp2
      go_round
      case rel => exact ⟨j + 1, N * 256 + (s[a + 1 + j]'hj2).toNat, by omega, by go_num, by rw [rn_or (b := (s[a + 1 + j]'hj2).toNat) hN2 (by omega)], fun h => by rw [rn_next hj2 HN.out]; exact rn_bd h80 hcc.out h (by rw [List.length_drop]; have : s.data.toList.length = s.size := rfl; omega), rn_next hj2 HN.out⟩
      case measure => simp [intOf]; omega
    · obtain rfl : j = k := by omega
      clear hN
      go_wp2
      go_ret3
      rw [HN.out]
      exact ⟨by go_num, rfl⟩
set_option maxHeartbeats 400000 in
set_option maxRecDepth 4000 in
theorem rn_ok8 (s : ByteArray) (a : Nat) (w : World) (hs : s.size ≤ 140737488355328) (ha : a < s.size) (k : Nat) (hk : ((s[a]'ha).toNat : Int) = k) (h8 : k = 8) (hl : k ≤ s.size - a - 1) (h1 : a + 1 < s.size) (h0 : 0 < k) (hz : ((((s[a + 1]'h1).toNat : Nat) : Int) == 0) = false) (hb : ((s[a + 1]'h1).toNat : Int) ≤ 127) :
    Calls Tryd.prog 68 #[.string s, .int .i64 a] w fun e w' => e = .returned (.tuple #[.int .i64 (beN ((s.data.toList.drop (a + 1)).take k)), .int .i64 (a + 1 + k : Nat), .int .i64 0]) ∧ w' = w := by
  have hk8 : ((k : Int) == 8) = true := by simp; omega
  have h80 : k ≤ 8 := by omega
  have hcc : Hid (k ≤ 7 ∨ ((s.data.toList.drop (a + 1)).getD 0 0).toNat ≤ 127) := .inr (by rw [byte_at h1]; simp; omega)
  clear h8
  have hbd : ((s[a]'ha).toNat : Int) ≤ 255 := by have := (s[a]'ha).toNat_lt; omega
  have hlt : (a : Int) < s.size := by omega
  have hbd1 : ((s[a + 1]'h1).toNat : Int) ≤ 255 := by have := (s[a + 1]'h1).toNat_lt; omega
  have hlt1 : (a : Int) + 1 < s.size := by omega
  go_enter Tryd.func68, Tryd.ntmps68
  go_wp2
  go_loop [8, 59] (fun n i => ∃ j N : Nat, j ≤ k ∧ i = .int .i64 j ∧ n = .int .i64 N ∧ (j < k → N ≤ 36028797018963967) ∧ Hid (N = beN ((s.data.toList.drop (a + 1)).take j))) (fun _ i => k - (intOf i).toNat)
  case atStart => exact ⟨0, 0, by omega, rfl, rfl, by omega, rfl⟩
  case round =>
    obtain ⟨j, N, hj, rfl, rfl, hN, HN⟩ := hrel
    by_cases hlt : j < k
    · have hN2 := hN hlt
      clear hN
      have hj2 : a + 1 + j < s.size := by omega
      have hbj : ((s[a + 1 + j]'hj2).toNat : Int) ≤ 255 := by have := (s[a + 1 + j]'hj2).toNat_lt; omega
      go_wp2
      go_round
      case rel => exact ⟨j + 1, N * 256 + (s[a + 1 + j]'hj2).toNat, by omega, by go_num, by rw [rn_or (b := (s[a + 1 + j]'hj2).toNat) hN2 (by omega)], fun h => by rw [rn_next hj2 HN.out]; exact rn_bd h80 hcc.out h (by rw [List.length_drop]; have : s.data.toList.length = s.size := rfl; omega), rn_next hj2 HN.out⟩
      case measure => simp [intOf]; omega
    · obtain rfl : j = k := by omega
      clear hN
      go_wp2
      go_ret3
      rw [HN.out]
      exact ⟨by go_num, rfl⟩
theorem rn_zero (s : ByteArray) (a : Nat) (w : World) (hs : s.size ≤ 140737488355328) (ha : a < s.size) (hk : ((s[a]'ha).toNat : Int) = 0) :
    Calls Tryd.prog 68 #[.string s, .int .i64 a] w fun e w' => e = .returned (.tuple #[.int .i64 0, .int .i64 (a + 1 : Nat), .int .i64 0]) ∧ w' = w := by
  have hlt : (a : Int) < s.size := by omega
  go_enter Tryd.func68, Tryd.ntmps68
  go_wp2
  go_loop [8, 59] (fun n i => n = .int .i64 0 ∧ i = .int .i64 0) (fun _ _ => 0)
  case atStart => exact ⟨rfl, rfl⟩
  case round =>
    obtain ⟨rfl, rfl⟩ := hrel
    go_wp2
    go_ret3
    exact ⟨by go_num, rfl⟩
def rnV (r : Except Int (Nat × Nat)) (a : Nat) : Value :=
  match r with
  | .error e => .tuple #[.int .i64 0, .int .i64 0, .int .i64 e]
  | .ok (n, c) => .tuple #[.int .i64 n, .int .i64 (a + c : Nat), .int .i64 0]
theorem rn_any (s : ByteArray) (a : Nat) (w : World) (hs : s.size ≤ 140737488355328) (ha : a ≤ s.size) :
    Calls Tryd.prog 68 #[.string s, .int .i64 a] w fun e w' => e = .returned (rnV (rdN (s.data.toList.drop a)) a) ∧ w' = w := by
  have hL : s.data.toList.length = s.size := rfl
  by_cases he : a = s.size
  · subst he
    rw [List.drop_of_length_le (by omega)]
    exact rn_end s w hs
  · have ha' : a < s.size := by omega
    have hbd := (s[a]'ha').toNat_lt
    rw [byte_at ha']
    simp only [rdN]
    have hlen : (s.data.toList.drop (a + 1)).length = s.size - a - 1 := by rw [List.length_drop]; omega
    by_cases h8 : 8 < (s[a]'ha').toNat
    · rw [if_pos h8]; exact rn_e6a s a w hs ha' (by omega)
    · rw [if_neg h8, hlen]
      by_cases hl : s.size - a - 1 < (s[a]'ha').toNat
      · rw [if_pos hl]; exact rn_e5 s a w hs ha' (by omega) (by omega)
      · rw [if_neg hl]
        by_cases h0 : (s[a]'ha').toNat = 0
        · rw [if_neg (by omega), h0]
          exact rn_zero s a w hs ha' (by omega)
        · have h1 : a + 1 < s.size := by omega
          have hg : (s.data.toList.drop (a + 1)).getD 0 0 = s[a + 1]'h1 := by rw [byte_at h1]; rfl
          rw [hg]
          by_cases hz : (s[a + 1]'h1).toNat = 0
          · rw [if_pos ⟨by omega, .inl hz⟩]
            exact rn_e6b s a w hs ha' (by omega) (by omega) h1 (by omega) (by simp [hz])
          · have hz' : ((((s[a + 1]'h1).toNat : Nat) : Int) == 0) = false := by simp; omega
            by_cases h88 : (s[a]'ha').toNat = 8
            · by_cases hb : 127 < (s[a + 1]'h1).toNat
              · rw [if_pos ⟨by omega, .inr ⟨h88, hb⟩⟩]
                exact rn_e6c s a w hs ha' (by simp [h88]) (by omega) (by omega) (by omega) h1 hz' (by omega)
              · rw [if_neg (by omega)]
                have := rn_ok8 s a w hs ha' (s[a]'ha').toNat rfl h88 (by omega) h1 (by omega) hz' (by omega)
                rw [show a + 1 + (s[a]'ha').toNat = a + ((s[a]'ha').toNat + 1) by omega] at this
                exact this
            · rw [if_neg (by omega)]
              have := rn_ok7 s a w hs ha' (s[a]'ha').toNat rfl (by omega) (by omega) h1 (by omega) hz'
              rw [show a + 1 + (s[a]'ha').toNat = a + ((s[a]'ha').toNat + 1) by omega] at this
              exact this
theorem rn_value (s : ByteArray) (a : Nat) (w : World) (hs : s.size ≤ 140737488355328) (ha : a ≤ s.size) {n c : Nat} (h : rdN (s.data.toList.drop a) = .ok (n, c)) :
    Calls Tryd.prog 68 #[.string s, .int .i64 a] w fun e w' => e = .returned (.tuple #[.int .i64 n, .int .i64 (a + c : Nat), .int .i64 0]) ∧ w' = w := by
  have := rn_any s a w hs ha
  rw [h] at this
  exact this
theorem rn_error (s : ByteArray) (a : Nat) (w : World) (hs : s.size ≤ 140737488355328) (ha : a ≤ s.size) {x : Int} (h : rdN (s.data.toList.drop a) = .error x) :
    Calls Tryd.prog 68 #[.string s, .int .i64 a] w fun e w' => e = .returned (.tuple #[.int .i64 0, .int .i64 0, .int .i64 x]) ∧ w' = w := by
  have := rn_any s a w hs ha
  rw [h] at this
  exact this
open Go.RowKit
theorem extract_str (s : ByteArray) (i n : Nat) : s.extract i (i + n) = bstr ((s.data.toList.drop i).take n) := by
  apply ByteArray.ext
  rw [ByteArray.data_extract]
  apply Array.ext'
  simp [bstr, List.extract]
def rtV (r : Except Int (List UInt8 × Nat)) (a : Nat) : Value :=
  match r with
  | .error e => .tuple #[.string ByteArray.empty, .int .i64 0, .int .i64 e]
  | .ok (t, c) => .tuple #[.string (bstr t), .int .i64 (a + c : Nat), .int .i64 0]
theorem ret3 {a b c a' b' c' : Value} (h1 : a = a') (h2 : b = b') (h3 : c = c') : Ending.returned (.tuple #[a, b, c]) = .returned (.tuple #[a', b', c']) := by rw [h1, h2, h3]
theorem intv {k : IntKind} {x y : Int} (h : x = y) : Value.int k x = .int k y := by rw [h]
theorem ne0_of {e : Int} (h : e = 5 ∨ e = 6) : (e != 0) = true := by rcases h with rfl | rfl <;> rfl
theorem ne0_of3 {e : Int} (h : e = 3 ∨ e = 5 ∨ e = 6) : (e != 0) = true := by rcases h with rfl | rfl | rfl <;> rfl
set_option maxHeartbeats 400000 in
set_option maxRecDepth 4000 in
theorem rt_any (s : ByteArray) (a : Nat) (w : World) (hs : s.size ≤ 140737488355328) (ha : a ≤ s.size) :
    Calls Tryd.prog 69 #[.string s, .int .i64 a] w fun e w' => e = .returned (rtV (rdT (s.data.toList.drop a)) a) ∧ w' = w := by
  have hL : s.data.toList.length = s.size := rfl
  obtain ⟨l, hl⟩ : ∃ l, s.data.toList.drop a = l := ⟨_, rfl⟩
  have hll : l.length = s.size - a := by rw [← hl, List.length_drop]; omega
  have HL := Lib.hid hl
  rw [hl]
  cases hN : rdN l with
  | error x =>
    have hx := Lib.hid (rdN_err hN)
    have hx0 : (x != 0) = true := ne0_of hx.out
    have hr : rdT l = .error x := by simp [rdT, hN]
    have HC := Lib.hid (fun w => rn_error s a w hs ha (x := x) (by rw [hl]; exact hN))
    rw [hr]
    clear hl hN hr hL
    go_enter Tryd.func69, Tryd.ntmps69
    go_wp2_with fail
    refine (HC.out _).mono ?_
    rintro e w1 ⟨rfl, rfl⟩
    go_wp2_with fail
    go_ret3
    exact ⟨rfl, rfl⟩
  | ok p =>
    obtain ⟨n, c⟩ := p
    have h0 := rdN_ok hN
    obtain ⟨h01, h02, h03, h04⟩ := h0
    have HC := Lib.hid (fun w => rn_value s a w hs ha (n := n) (c := c) (by rw [hl]; exact hN))
    have hac : a + c ≤ s.size := by omega
    by_cases hbig : 65536 < n
    · have hr : rdT l = .error 3 := by simp [rdT, hN, hbig]
      rw [hr]
      clear hl hN hr hL
      go_enter Tryd.func69, Tryd.ntmps69
      go_wp2_with fail
      refine (HC.out _).mono ?_
      rintro e w1 ⟨rfl, rfl⟩
      go_wp2_with fail
      go_ret3
      exact ⟨rfl, rfl⟩
    · by_cases hsh : l.length - c < n
      · have hr : rdT l = .error 5 := by simp [rdT, hN, hbig, hsh]
        have hsh' : (s.size : Int) - ((a : Int) + c) < n := by omega
        rw [hr]
        clear hl hN hr hL
        go_enter Tryd.func69, Tryd.ntmps69
        go_wp2_with fail
        refine (HC.out _).mono ?_
        rintro e w1 ⟨rfl, rfl⟩
        go_wp2_with fail
        go_ret3
        exact ⟨rfl, rfl⟩
      · have hr : rdT l = .ok ((l.drop c).take n, c + n) := by simp [rdT, hN, hbig, hsh]
        have hsh' : (n : Int) ≤ (s.size : Int) - ((a : Int) + c) := by omega
        have hex : bstr ((l.drop c).take n) = s.extract (a + c) (a + c + n) := by rw [extract_str, ← hl, List.drop_drop]
        have HE := Lib.hid hex
        rw [hr]
        have hs1 : (0 : Int) ≤ (a : Int) + c := by omega
        have hs2 : (a : Int) + c ≤ (a : Int) + c + n := by omega
        have hs3 : (a : Int) + c + n ≤ s.size := by omega
        clear hl hN hr hL hex
        go_enter Tryd.func69, Tryd.ntmps69
        go_wp2_with fail
        refine (HC.out _).mono ?_
        rintro e w1 ⟨rfl, rfl⟩
        go_wp2_with fail
        go_ret3
        refine ⟨ret3 (congrArg Value.string ?_) (intv ?_) rfl, rfl⟩
        · exact HE.out.symm
        · omega
theorem rt_value (s : ByteArray) (a : Nat) (w : World) (hs : s.size ≤ 140737488355328) (ha : a ≤ s.size) {t : List UInt8} {c : Nat} (h : rdT (s.data.toList.drop a) = .ok (t, c)) :
    Calls Tryd.prog 69 #[.string s, .int .i64 a] w fun e w' => e = .returned (.tuple #[.string (bstr t), .int .i64 (a + c : Nat), .int .i64 0]) ∧ w' = w := by
  have := rt_any s a w hs ha
  rw [h] at this
  exact this
theorem rt_error (s : ByteArray) (a : Nat) (w : World) (hs : s.size ≤ 140737488355328) (ha : a ≤ s.size) {x : Int} (h : rdT (s.data.toList.drop a) = .error x) :
    Calls Tryd.prog 69 #[.string s, .int .i64 a] w fun e w' => e = .returned (.tuple #[.string ByteArray.empty, .int .i64 0, .int .i64 x]) ∧ w' = w := by
  have := rt_any s a w hs ha
  rw [h] at this
  exact this
def rlRes (r : Except Int (List ByteArray × Nat)) (ts : List ByteArray) (d : Nat) : Except Int (List ByteArray × Nat) :=
  match r with
  | .error e => .error e
  | .ok (us, c) => .ok (ts ++ us, d + c)
/-- what ReadList hands back -/
def rlPost (w : World) (a : Nat) (r : Except Int (List ByteArray × Nat)) (e : Ending) (w' : World) : Prop :=
  Below w.heap.size w w' ∧ match r with
  | .error x => e = .returned (.tuple #[.slice none 0 0, .int .i64 0, .int .i64 x])
  | .ok (ts, c) => ∃ v, e = .returned (.tuple #[v, .int .i64 (a + c : Nat), .int .i64 0]) ∧ w'.ownsRow w.heap.size 9 1 v ts.length (strs ts)
set_option maxHeartbeats 1000000 in
set_option maxRecDepth 4000 in
theorem rl_any (s : ByteArray) (a : Nat) (w : World) (hs : s.size ≤ 140737488355328) (ha : a ≤ s.size) :
    Calls Tryd.prog 32 #[.string s, .int .i64 a] w (rlPost w a (rdL (s.data.toList.drop a))) := by
  have hL : s.data.toList.length = s.size := rfl
  obtain ⟨l, hl⟩ : ∃ l, s.data.toList.drop a = l := ⟨_, rfl⟩
  have hll : l.length = s.size - a := by rw [← hl, List.length_drop]; omega
  rw [hl]
  cases hN : rdN l with
  | error x =>
    have hx0 : (x != 0) = true := ne0_of (rdN_err hN)
    have hr : rdL l = .error x := by simp [rdL, hN]
    have HC := Lib.hid (fun w => rn_error s a w hs ha (x := x) (by rw [hl]; exact hN))
    rw [hr]
    clear hl hN hr hL
    go_enter Tryd.func32, Tryd.ntmps32
    go_wp2_with fail
    refine (HC.out _).mono ?_
    rintro e w1 ⟨rfl, rfl⟩
    go_wp2_with fail
    go_ret3
    exact ⟨Below.refl _ _, rfl⟩
  | ok p =>
    obtain ⟨n, c⟩ := p
    obtain ⟨h01, h02, h03, h04⟩ := rdN_ok hN
    have HC := Lib.hid (fun w => rn_value s a w hs ha (n := n) (c := c) (by rw [hl]; exact hN))
    have hac : a + c ≤ s.size := by omega
    by_cases hbig : 1024 < n
    · have hr : rdL l = .error 3 := by simp [rdL, hN, hbig]
      rw [hr]
      clear hl hN hr hL
      go_enter Tryd.func32, Tryd.ntmps32
      go_wp2_with fail
      refine (HC.out _).mono ?_
      rintro e w1 ⟨rfl, rfl⟩
      go_wp2_with fail
      go_ret3
      exact ⟨Below.refl _ _, rfl⟩
    · have hr : rdL l = rlRes (rdLs n 65536 (s.data.toList.drop (a + c))) [] c := by
        unfold rdL
        rw [hN]
        dsimp only
        rw [if_neg hbig, ← hl, List.drop_drop]
        cases rdLs n 65536 (s.data.toList.drop (a + c)) with
        | error e => rfl
        | ok p => obtain ⟨us, f⟩ := p; simp [rlRes]
      obtain ⟨R, hR⟩ : ∃ R, rdL l = R := ⟨_, rfl⟩
      rw [hR]
      have HR := Lib.hid (hR.symm.trans hr)
      clear hl hN hr hL hR
      go_enter Tryd.func32, Tryd.ntmps32
      go_wp2_with fail
      refine (HC.out _).mono ?_
      rintro e w1 ⟨rfl, hw1⟩
      subst hw1
      go_wp2_with fail
      go_loopw [8, 10, 11, 28] (fun nx o left i wr => ∃ (k x T : Nat) (ts : List ByteArray), k ≤ n ∧ x ≤ s.size ∧ T ≤ 65536 ∧ a + c ≤ x ∧ nx = .int .i64 x ∧ i = .int .i64 k ∧ left = .int .i64 T ∧ Hid (Below w1.heap.size w1 wr) ∧ Hid (wr.ownsRow w1.heap.size 9 1 o k (strs ts)) ∧ Hid (R = rlRes (rdLs (n - k) T (s.data.toList.drop x)) ts (x - a))) (fun _ _ _ i _ => n - (intOf i).toNat)
      case atStart => exact ⟨0, a + c, 65536, [], by omega, by omega, by omega, by omega, rfl, rfl, rfl, Below.refl _ _, own_nil _ _ _ _, by have := HR.out; rw [show a + c - a = c by omega]; exact this⟩
      case round =>
        obtain ⟨k, x, T, ts, hk, hx, hT, hxa, rfl, rfl, rfl, hB, hO, hR⟩ := hrel
        by_cases hlt : k < n
        · obtain ⟨m, hm⟩ : ∃ m, n - k = m + 1 := ⟨n - k - 1, by omega⟩
          cases hX : rdT (s.data.toList.drop x) with
          | error y =>
            have hy0 : (y != 0) = true := ne0_of3 (rdT_err hX)
            have HCT := Lib.hid (fun w => rt_error s x w hs hx hX)
            have HF : Hid (R = .error y) := by have := hR.out; rw [hm] at this; simp only [rdLs, hX, rlRes] at this; exact this
            clear hX hm
            go_wp2_with fail
            refine (HCT.out _).mono ?_
            rintro e w2 ⟨rfl, rfl⟩
            go_wp2_with fail
            go_ret3
            rw [HF.out]
            exact ⟨hB.out, rfl⟩
          | ok q =>
            obtain ⟨t, d⟩ := q
            have ht := rdT_ok hX
            obtain ⟨ht1, ht2, ht3, _⟩ := ht
            have htx : x + d ≤ s.size := by rw [List.length_drop] at ht2; have : s.data.toList.length = s.size := rfl; omega
            have HCT := Lib.hid (fun w => rt_value s x w hs hx hX)
            have hsz : (bstr t).size = t.length := rfl
            by_cases hfit : T < (bstr t).size
            · have HF : Hid (R = .error 3) := by have := hR.out; rw [hm] at this; simp only [rdLs, hX, rlRes] at this; rw [if_pos (by omega)] at this; exact this
              clear hX hm hsz
              go_wp2_with fail
              refine (HCT.out _).mono ?_
              rintro e w2 ⟨rfl, rfl⟩
              go_wp2_with fail
              go_ret3
              rw [HF.out]
              exact ⟨hB.out, rfl⟩
            · have HF : Hid (R = rlRes (rdLs (n - (k + 1)) (T - (bstr t).size) (s.data.toList.drop (x + d))) (ts ++ [bstr t]) (x + d - a)) := by
                have := hR.out; rw [hm] at this; simp only [rdLs, hX] at this; rw [if_neg (by omega), List.drop_drop] at this
                rw [show n - (k + 1) = m by omega, this, hsz]
                cases rdLs m (T - t.length) (s.data.toList.drop (x + d)) with
                | error e => rfl
                | ok p => obtain ⟨us, f⟩ := p; simp only [rlRes, List.append_assoc, List.singleton_append]; congr 2; omega
              have hfit' : (bstr t).size ≤ T := by omega
              clear hX hm hsz hfit
              go_wp2_with fail
              refine (HCT.out _).mono ?_
              rintro e w2 ⟨rfl, hw2⟩
              subst hw2
              go_wp2_with ((at_builtin; refine wpList_app1 rfl (.tmp 48) (.tmp 50) 45 9 rfl Tryd.underlying45 _ str_info (.string ByteArray.empty) rfl rfl rfl 16 rfl w1.heap.size _ k _ rfl hO.out (.string (bstr t)) rfl rfl 9 (by omega) (by omega) w1 hB.out hB.out.size (Nat.le_refl _) ?_); intro v3 w3 hO3 hB3)
              go_roundw
              case rel => exact ⟨k + 1, x + d, T - (bstr t).size, ts ++ [bstr t], by omega, by omega, by omega, by omega, by go_num, by go_num, by go_num, hB3, show _ from by rw [strs_app, strs_one]; exact hO3.out, HF⟩
              case measure => simp [intOf]; omega
        · obtain rfl : k = n := by omega
          have HF : Hid (R = .ok (ts, x - a)) := show R = _ by have := hR.out; rw [Nat.sub_self] at this; simpa [rdLs, rlRes] using this
          go_wp2_with fail
          go_ret3
          rw [HF.out]
          refine ⟨hB.out, u10, ?_, ?_⟩
          · exact ret3 rfl (intv (by omega)) rfl
          · have h1 : ts.length = k := by have := hO.out.1; simpa [strs] using this
            rw [h1]; exact hO.out
end Go.Proofs.YtbeooeihedhabaaDoor
