/- cavalcaderef04.List, Number, Hash: what the calls do. -/
import Derived.Test.YtbeooeihedhabaaDoorRRl
import Derived.Test.YtbeooeihedhabaaDoorRdAll
import Derived.Deep.DeepCutAuto
namespace Go.Proofs.YtbeooeihedhabaaDoor
open Go.RowKit
set_option maxHeartbeats 1000000
set_option maxRecDepth 4000
/-- .. a list that is none is nil -/
def tlPostN (w : World) (r : Except Int (List ByteArray)) (e : Ending) (w' : World) : Prop :=
  Below w.heap.size w w' ∧ match r with
  | .error x => e = .returned (.tuple #[.slice none 0 0, .int .i64 x])
  | .ok ts => ∃ v, e = .returned (.tuple #[v, .int .i64 0]) ∧ w'.ownsRow w.heap.size 9 1 v ts.length (strs ts)
theorem r4list_nil (s : ByteArray) (w : World) (hs : s.size ≤ 140737488355328) : Calls Tryd.prog 37 #[.string s] w (tlPostN w (rdAll s)) := by
  have HC := rrl_any s 0
  rw [List.drop_zero] at HC
  cases hr : rdL s.data.toList with
  | error x =>
    have hx0 : (x != 0) = true := ne0_of3 (rdL_err hr)
    have hx1 : (x == 0) = false := by simpa using hx0
    have hR : rdAll s = .error x := by simp [rdAll, hr]
    rw [hr] at HC
    rw [hR]
    clear hr hR
    go_enter Tryd.func37, Tryd.ntmps37
    go_wp2_with fail
    refine (HC _ hs (Nat.zero_le _)).mono ?_
    rintro e w1 ⟨hb, rfl⟩
    go_wp2_with fail
    go_ret2
    exact ⟨hb, rfl⟩
  | ok p =>
    obtain ⟨ts, c⟩ := p
    have h0 := rdL_ok hr
    have hL : s.data.toList.length = s.size := rfl
    rw [hr] at HC
    by_cases hc : c = s.size
    · have hR : rdAll s = .ok ts := by simp [rdAll, hr, hc]
      have hc2 : decide ((c : Int) < s.size) = false := decide_eq_false (by omega)
      rw [hR]
      clear hr hR
      go_enter Tryd.func37, Tryd.ntmps37
      go_wp2_with fail
      refine (HC _ hs (Nat.zero_le _)).mono ?_
      rintro e w1 ⟨hb, v, rfl, ho⟩
      have HB := Lib.hid hb
      have HO := Lib.hid ho
      clear hb ho
      rw [Nat.zero_add]
      go_wp2_with fail
      go_ret2
      exact ⟨HB.out, v, rfl, HO.out⟩
    · have hR : rdAll s = .error 6 := by simp [rdAll, hr, hc]
      have hc2 : decide ((c : Int) < s.size) = true := decide_eq_true (by omega)
      rw [hR]
      clear hr hR
      go_enter Tryd.func37, Tryd.ntmps37
      go_wp2_with fail
      refine (HC _ hs (Nat.zero_le _)).mono ?_
      rintro e w1 ⟨hb, v, rfl, ho⟩
      have HB := Lib.hid hb
      clear hb ho
      rw [Nat.zero_add]
      go_wp2_with fail
      go_ret2
      exact ⟨HB.out, rfl⟩
theorem r4list_any (s : ByteArray) (w : World) (hs : s.size ≤ 140737488355328) : Calls Tryd.prog 37 #[.string s] w (tlPost w (rdAll s)) := by
  refine (r4list_nil s w hs).mono ?_
  rintro e w1 ⟨hb, h⟩
  refine ⟨hb, ?_⟩
  cases hr : rdAll s with
  | error x => rw [hr] at h; exact ⟨_, h⟩
  | ok ts => rw [hr] at h; exact h
def r4V (r : Except Int Nat) : Value := match r with | .error e => .tuple #[.int .i64 0, .int .i64 e] | .ok n => .tuple #[.int .i64 n, .int .i64 0]
theorem r4num_any (s : ByteArray) (w : World) (hs : s.size ≤ 140737488355328) : Calls Tryd.prog 88 #[.string s] w fun e w' => e = .returned (r4V (rdNum s)) ∧ w' = w := by
  have HC := fun w => rrn_any s 0 w hs (Nat.zero_le _)
  rw [List.drop_zero] at HC
  unfold rdNum
  cases hr : rdN s.data.toList with
  | error x =>
    have hx0 : (x != 0) = true := ne0_of (rdN_err hr)
    have hx1 : (x == 0) = false := by simpa using hx0
    rw [hr] at HC
    clear hr
    go_enter Tryd.func88, Tryd.ntmps88
    go_wp2_with fail
    refine (HC _).mono ?_
    rintro e w1 ⟨rfl, rfl⟩
    simp only [rnV]
    go_wp2_with fail
    go_ret2
    exact ⟨rfl, rfl⟩
  | ok p =>
    obtain ⟨n, c⟩ := p
    have h0 := rdN_ok hr
    have hL : s.data.toList.length = s.size := rfl
    rw [hr] at HC
    by_cases hc : c = s.size
    · have hc2 : decide ((c : Int) < s.size) = false := decide_eq_false (by omega)
      simp only [if_pos hc]
      clear hr
      go_enter Tryd.func88, Tryd.ntmps88
      go_wp2_with fail
      refine (HC _).mono ?_
      rintro e w1 ⟨rfl, rfl⟩
      simp only [rnV, Nat.zero_add]
      go_wp2_with fail
      go_ret2
      exact ⟨rfl, rfl⟩
    · have hc2 : decide ((c : Int) < s.size) = true := decide_eq_true (by omega)
      simp only [if_neg hc]
      clear hr
      go_enter Tryd.func88, Tryd.ntmps88
      go_wp2_with fail
      refine (HC _).mono ?_
      rintro e w1 ⟨rfl, rfl⟩
      simp only [rnV, Nat.zero_add]
      go_wp2_with fail
      go_ret2
      exact ⟨rfl, rfl⟩
theorem hash0_bld (w : World) : (Instr.build 51 #[]).run Tryd.prog w = .ok (.agg zl32.toArray) w := by kernel_rfl
def hpre (l : List UInt8) (j : Nat) : List Value := u8s (l.take j) ++ List.replicate (32 - j) (.int .u8 0)
theorem hpre_set {l : List UInt8} (hl : l.length = 32) {j : Nat} (hj : j < 32) : (hpre l j).set j (.int .u8 (l[j]'(by omega)).toNat) = hpre l (j + 1) := by
  unfold hpre
  rw [List.set_append_right _ _ (by rw [u8s_length, List.length_take]; omega), u8s_length, List.length_take, show j - min j l.length = 0 by omega, show 32 - j = (32 - (j + 1)) + 1 by omega, List.replicate_succ, List.set_cons_zero, List.take_succ_eq_append_getElem (by omega), u8s_append, List.append_assoc]
  rfl
theorem hpre_end {l : List UInt8} (hl : l.length = 32) : hpre l 32 = u8s l := by
  unfold hpre
  rw [List.take_of_length_le (by omega)]
  simp
theorem hpre_get {l : List UInt8} (hl : l.length = 32) {j : Nat} (hj : j < 32) : (hpre l j)[j]? = some (.int .u8 0) := by
  unfold hpre
  rw [List.getElem?_append_right (by rw [u8s_length, List.length_take]; omega), u8s_length, List.length_take, show j - min j l.length = 0 by omega, List.getElem?_replicate, if_pos (by omega)]
theorem r4hash_any (s : ByteArray) (w : World) (hs : s.size = 32) : Calls Tryd.prog 39 #[.string s] w fun e w' => e = .returned (.agg (u8s s.data.toList).toArray) ∧ Below w.heap.size w w' := by
  have hL : s.data.toList.length = 32 := hs
  have HL := Lib.hid hL
  have hz0 : ((w.alloc (.cells zl32.toArray 51)).alloc (.cells zl32.toArray 51)).heap[w.heap.size]? = some (.cells zl32.toArray 51 (0, 0)) := (Below.heap_alloc _ _ _ (by simp)).trans (heap_alloc_new w _)
  have hz1 : ((w.alloc (.cells zl32.toArray 51)).alloc (.cells zl32.toArray 51)).heap[w.heap.size + 1]? = some (.cells zl32.toArray 51 (0, 0)) := heap_alloc2_new w _ _
  have HB0 := Lib.hid (bw_alloc (bw_alloc (Below.refl w.heap.size w) (.cells zl32.toArray 51)) (.cells zl32.toArray 51))
  clear hL
  go_enter Tryd.func39, Tryd.ntmps39
  go_wp2_with (first
    | (with_reducible refine wpList_build rfl 51 [] rfl [] (.agg zl32.toArray) rfl (hash0_bld _) ?_)
    | ((with_reducible refine wpList_store_whole rfl 51 (.tmp 3) (.tmp 5) rfl (w.heap.size + 1) zl32 zl32 51 rfl rfl hz1 rfl (by rw [zl32_eq]; exact hash_info z32_length) zl32_one ?_); intro w2 hU2; have hT2 := hU2.out.at_; have hZ2 := (hU2.out.other _ (by omega)).trans hz0; have HB2 := Lib.hid (hU2.out.below HB0.out (by omega)); clear hz0 hz1))
  go_loopw [4] (fun i wr => ∃ j : Nat, j ≤ 32 ∧ i = .int .i64 j ∧ Hid (Below w.heap.size w wr) ∧ Hid (wr.heap[w.heap.size]? = some (.cells zl32.toArray 51 (0, 0))) ∧ Hid (wr.heap[w.heap.size + 1]? = some (.cells (hpre s.data.toList j).toArray 51 (0, 0)))) (fun i _ => 32 - (intOf i).toNat)
  case atStart => exact ⟨0, by omega, rfl, HB2, hZ2, hT2⟩
  case round =>
    obtain ⟨j, hj, rfl, HB, HZ, HT⟩ := hrel
    by_cases hlt : j < 32
    · have hj2 : j < s.size := by omega
      have f0 : (0 : Int) ≤ j := by omega
      have f1 : (j : Int) < s.size := by omega
      have f2 : (j : Int) < 32 := by omega
      have c1 : wr.cell? ⟨w.heap.size + 1, j, none⟩ = some (.int .u8 0) := by rw [cell_of_row wr _ _ _ _ _ HT.out, List.getElem?_toArray]; exact hpre_get HL.out hlt
      have c2 : wr.frozen? ⟨w.heap.size + 1, j, none⟩ = false := frozen_of_row wr _ _ _ _ HT.out
      go_wp2_with fail
      go_roundw
      case rel => exact ⟨j + 1, by omega, by go_num, HB.out.setCell (show w.heap.size ≤ w.heap.size + 1 by omega) _, show _ = _ from (heap_setCell_other _ _ _ _ (by show w.heap.size ≠ w.heap.size + 1; omega)).trans HZ.out, show _ = _ from by rw [← hpre_set HL.out hlt]; exact set_row HT.out _⟩
      case measure => simp [intOf]; omega
    · obtain rfl : j = 32 := by omega
      have hT : wr.heap[w.heap.size + 1]? = some (.cells (u8s s.data.toList).toArray 51 (0, 0)) := by have := HT.out; rw [hpre_end HL.out] at this; exact this
      have hZ := HZ.out
      go_wp2_with (first
        | (with_reducible refine wpList_load_rows rfl 51 (.tmp 3) rfl (w.heap.size + 1) 0 (u8s s.data.toList) (u8s s.data.toList) 51 (0, 0) _ rfl hT id_at Tryd.underlying51 rfl (hash_info HL.out) ?_)
        | ((with_reducible refine wpList_store_whole rfl 51 (.tmp 2) (.tmp 15) rfl w.heap.size (u8s s.data.toList) zl32 51 rfl rfl hZ (by rw [u8s_length, HL.out, zl32_length]) (hash_info HL.out) (u8s_one _) ?_); intro w3 hU3))
      exact post_cell 2 51 rfl w.heap.size _ (u8s s.data.toList) _ _ hU3.out.at_ Tryd.underlying51 rfl (hash_info HL.out) rfl rfl ⟨rfl, hU3.out.below HB.out (Nat.le_refl _)⟩
end Go.Proofs.YtbeooeihedhabaaDoor
